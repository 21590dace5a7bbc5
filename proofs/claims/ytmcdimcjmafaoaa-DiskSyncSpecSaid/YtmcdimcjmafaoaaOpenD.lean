/- Disks that came in, opened. -/
import Derived.Test.YtmcdimcjmafaoaaOpenG
import Derived.Test.YtmcdimcjmafaoaaDisk
namespace Go.Proofs.Ytmcdimcjmafaoaa.B
set_option linter.unusedVariables false
set_option linter.unusedSimpArgs false
set_option maxRecDepth 100000
open Go.RowKit

theorem cellsD : Try.prog.cellsOf 3 = 1 ∧ Try.prog.cellsOf 4 = 1 ∧ Try.prog.cellsOf 35 = 1 ∧ Try.prog.cellsOf 22 = 1 ∧ Try.prog.cellsOf 23 = 1 ∧ Try.prog.cellsOf 5 = 1 := ⟨by kernel_rfl, by kernel_rfl, by kernel_rfl, by kernel_rfl, by kernel_rfl, by kernel_rfl⟩
theorem cellsS : Try.prog.cellsOf 54 = 2 ∧ Try.prog.cellsOf 25 = 4 := ⟨by kernel_rfl, by kernel_rfl⟩
theorem fields_write : fieldsOf Try.prog 54 = some [(3, 0), (35, 1)] := by kernel_rfl
theorem fields_disk : fieldsOf Try.prog 25 = some [(22, 0), (23, 1), (3, 2), (4, 3)] := by kernel_rfl
theorem opens_bytes (n : Nat) : Opens Try.prog n 35 kBytes := opens_sl (d := kU8) Try.underlying35 cellsD.2.2.2.2.2 (by decide) (fun m _ => opens_u8 Try.underlying5 m)
theorem opens_rows (n : Nat) : Opens Try.prog n 22 (kSl kBytes) := opens_sl (d := kBytes) Try.underlying22 cellsD.2.2.1 (by decide) (fun m _ => opens_bytes m)
theorem opens_wr (n : Nat) : Opens Try.prog n 54 kWr := by
  intro H enc w sp held cs x h
  obtain ⟨m, rfl, hc, hf⟩ := open_struct fields_write h
  rw [cellsS.1] at hc
  obtain ⟨u0, u1, rfl⟩ : ∃ a b, cs = [a, b] := by
    match cs, hc with
    | [a, b], _ => exact ⟨a, b, rfl⟩
  obtain ⟨_, h0⟩ := hf _ (List.mem_cons_self)
  obtain ⟨_, h1⟩ := hf _ (List.mem_cons_of_mem _ List.mem_cons_self)
  rw [cellsD.1] at h0
  rw [cellsD.2.2.1] at h1
  obtain ⟨p, e0, hp⟩ := opens_int Try.underlying3 m h0
  obtain ⟨b, A, c, e1, hs⟩ := opens_bytes m h1
  simp only [List.drop_zero, List.take_succ_cons, List.take_zero, List.cons.injEq, and_true, List.drop_succ_cons] at e0 e1
  subst e0; subst e1
  exact ⟨⟨p, b⟩, kWr_mk (x := ⟨p, b⟩) hp hs⟩
theorem opens_dsk (n : Nat) : Opens Try.prog n 25 kDsk := by
  intro H enc w sp held cs x h
  obtain ⟨m, rfl, hc, hf⟩ := open_struct fields_disk h
  rw [cellsS.2] at hc
  obtain ⟨u0, u1, u2, u3, rfl⟩ : ∃ a b c d, cs = [a, b, c, d] := by
    match cs, hc with
    | [a, b, c, d], _ => exact ⟨a, b, c, d, rfl⟩
  obtain ⟨_, h0⟩ := hf _ (List.mem_cons_self)
  obtain ⟨_, h1⟩ := hf _ (List.mem_cons_of_mem _ List.mem_cons_self)
  obtain ⟨_, h2⟩ := hf _ (List.mem_cons_of_mem _ (List.mem_cons_of_mem _ List.mem_cons_self))
  obtain ⟨_, h3⟩ := hf _ (List.mem_cons_of_mem _ (List.mem_cons_of_mem _ (List.mem_cons_of_mem _ List.mem_cons_self)))
  rw [cellsD.2.2.2.1] at h0
  rw [cellsD.2.2.2.2.1] at h1
  rw [cellsD.1] at h2
  rw [cellsD.2.1] at h3
  obtain ⟨ss, A, c, e0, hs⟩ := opens_rows m h0
  obtain ⟨ps, A', c', e1, hp⟩ := opens_sl (d := kWr) (n := m) Try.underlying23 cellsS.1 (by decide) (fun k _ => opens_wr k) h1
  obtain ⟨l, e2, hl⟩ := opens_int Try.underlying3 m h2
  obtain ⟨b, e3⟩ := opens_bool Try.underlying4 m h3
  have e3' : ([Value.slice A ss.length c, .slice A' ps.length c', .int .i64 l, .bool b].drop 3).take 1 = [.bool b] := rfl
  simp only [List.drop_zero, List.take_succ_cons, List.take_zero, List.cons.injEq, and_true, List.drop_succ_cons] at e0 e1 e2 e3
  have e4 : [u3] = [Value.bool b] := by
    first | exact e3 | (rw [e3])
  injection e4 with e4
  subst e0; subst e1; subst e2; subst e4
  exact ⟨⟨ss, ps, l, b⟩, kDsk_mk (d := ⟨ss, ps, l, b⟩) hs hp hl⟩
/-- An argument that is a disk. -/
theorem open_dsk {H : Type} {enc : TypeId × Value → H} {w : World} {sp : Nat → Bool} {held : Bool} {v : Value} {d : DataW H} {ps : List MemPlace} {r : Reach} {b0 : Nat} (hval : Value.okWide Try.prog w r b0 25 v) (h : DataW.Trod enc Try.prog w 0 sp held 25 v d ps) :
    ∃ (x : Dsk) (cs : List Value), v = .agg cs.toArray ∧ kDsk.K w (Old w) x cs := by
  obtain ⟨cs, rfl, _⟩ := WideShapes.okWide_struct Try.underlying25 hval
  obtain ⟨n, hn⟩ := h
  obtain ⟨x, hx⟩ := opens_dsk n hn
  exact ⟨x, cs.toList, by simp, hx⟩
end Go.Proofs.Ytmcdimcjmafaoaa.B
