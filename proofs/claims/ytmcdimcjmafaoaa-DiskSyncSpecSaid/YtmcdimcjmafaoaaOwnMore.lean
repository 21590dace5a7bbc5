/- append onto a full slice that is read; rows made by make; copies. No program in sight. -/
import Derived.Test.YtmcdimcjmafaoaaKinds
import Derived.ArgAppend
import Derived.Laws.CopyOwn
import Derived.Laws.MakeOwn
namespace Go.Proofs.Ytmcdimcjmafaoaa.B
set_option linter.unusedVariables false
set_option linter.unusedSimpArgs false
open Go.RowKit
section
variable {P : Program} {α : Type} {d : Kd α} {e : TypeId} {w : World} {F : Foot} {xs ys : List α}
/-- append onto a slice whose capacity is its length: a new row. -/
theorem run_grows {t ty : TypeId} {bytes : Nat} (E : Elem P t e d.sz bytes) {A : Option Addr} {c : Nat} (h : SL d w F A c xs) (hfull : c = xs.length) (ad : Addr) (m c' : Nat) (news : List Value) (hm : ys.length = m) (hpos : 0 < m)
    (hc : CellsOf d w F ys news) (hcell : ∀ i u, news[i]? = some u → w.cell? (ad.add i) = some u) (h1 : ∀ u ∈ news, u.oneCell' = true) (hF : ∀ k, F k → k < w.heap.size) (hbp : 0 < bytes) (hby : (xs.length + m) * bytes ≤ 140737488355328) :
    ∃ v' w', (Builtin.append_ #[t, t] ty #[.slice A xs.length c, .slice (some ad) m c']).run P w = .ok v' w' ∧ Own d e w' w.heap.size F v' (xs ++ ys) ∧ w.grownBy w' none := by
  obtain ⟨i, z, hi, hz, hsz, hbytes, hzs⟩ := E.hi
  have hlen : xs.length + m ≤ maxLen := by
    have : xs.length + m ≤ (xs.length + m) * bytes := Nat.le_mul_of_pos_right _ hbp
    simp only [maxLen]; omega
  have key : ∃ olds, CellsOf d w F xs olds ∧ ∃ v' w', (Builtin.append_ #[t, t] ty #[.slice A xs.length c, .slice (some ad) m c']).run P w = .ok v' w' ∧ w'.ownsRow w.heap.size e d.sz v' (xs.length + m) (olds ++ news) ∧ w.grownBy w' none := by
    by_cases hne : xs = []
    · subst hne
      refine ⟨[], CellsOf.nil, ?_⟩
      have hc0 : c = 0 := hfull
      subst hc0
      cases A with
      | none =>
        obtain ⟨v', w', hrun, r1, r2, _⟩ := run_append_own (P := P) w w.heap.size t ty e i z d.sz bytes E.ht hi hz hsz hbytes hzs E.pos (.slice none 0 0) 0 [] (World.ownsRow_nil w _ e d.sz) ad m c' news (by rw [hc.1, hm]) hcell h1 (by simpa using hlen) (by simpa using hby) (Nat.le_refl _)
        exact ⟨v', w', hrun, by simpa using r1, r2⟩
      | some b =>
        obtain ⟨v', w', hrun, r1, r2⟩ := run_append_arg_grows (P := P) w t ty e i z d.sz bytes E.ht hi hz hsz hbytes hzs E.pos b 0 0 [] (by simp) (by simp) ad m c' news (by rw [hc.1, hm]) hcell (by omega) (by simpa using hlen) (by simpa using hby)
        exact ⟨v', w', hrun, by simpa using r1, r2⟩
    · obtain ⟨b, olds, rfl, ho, ho1, hoc⟩ := CellsOf.of_row h.row hne
      obtain ⟨v', w', hrun, r1, r2⟩ := run_append_arg_grows (P := P) w t ty e i z d.sz bytes E.ht hi hz hsz hbytes hzs E.pos b xs.length c olds ho.1 hoc ad m c' news (by rw [hc.1, hm]) hcell (by omega) hlen hby
      exact ⟨olds, ho, v', w', hrun, r1, r2⟩
  obtain ⟨olds, ho, v', w', hrun, r1, r2⟩ := key
  refine ⟨v', w', hrun, ⟨olds ++ news, by rw [List.length_append, hm]; exact r1, (ho.app hc).move (fun k _ hl => r2.block k hl (by simp)) r2.size, fun k hk hf => ?_⟩, r2⟩
  have := (r1.lt k hk).1
  have := hF k hf
  omega
end
section
variable {P : Program} {α : Type} {d : Kd α} {e : TypeId} {w : World} {F : Foot} {xs : List α} {ops : Array Oper} {rest : List Oper} {o : Oper} {a : Act} {Q : Exit → Act → World → Prop}
theorem wpList_grows1 (hgd : o.guard = none) (s x : Operand) (t : TypeId) {bytes : Nat}
    (ho : o.op = .call { callee := .builtin .append, args := #[s, x], argTypes := #[t, t] }) (E : Elem P t e d.sz bytes) (y : α) (cs : List Value) {A : Option Addr} {c : Nat} (h : SL d w F A c xs) (hfull : c = xs.length) (hs : a.eval s = .slice A xs.length c)
    (ad : Addr) (c' : Nat) (hx : a.eval x = .slice (some ad) 1 c') (hc : d.K w F y cs) (hcell : ∀ i u, cs[i]? = some u → w.cell? (ad.add i) = some u) (hF : ∀ k, F k → k < w.heap.size)
    (hby : (xs.length + 1) * bytes ≤ 140737488355328) (hbp : 0 < bytes)
    (hk : ∀ v' w', Own d e w' w.heap.size F v' (xs ++ [y]) → w.grownBy w' none → wpList P ops Q rest (a.put o.dst v') w') : wpList P ops Q (o :: rest) a w := by
  refine wpList_plain hgd fun K hK => ?_
  obtain ⟨v', w', hrun, h2, h3⟩ := run_grows (P := P) (ty := o.type) E h hfull ad 1 c' cs (ys := [y]) rfl (by omega) (CellsOf.one y cs hc) hcell (d.one hc) hF hbp hby
  unfold Oper.wp execOp
  simp only [ho, resolve, invoke, builtin, Sem.run_bind, Sem.run_pure, Result.andThen_ok, List.map_toArray, List.map_cons, List.map_nil, hs, hx, hrun]
  exact hK _ _ (hk v' w' h2 h3)
end
theorem below_grown_none {w w' : World} (h : w.grownBy w' none) : Below w.heap.size w w' := ⟨h.os, h.tape, h.output, h.size, fun k hk => h.block k hk (by simp)⟩
/-- A full row of bytes in a block of its own. -/
theorem own_bytes_block {w : World} {B g : Nat} {e : TypeId} {F : Foot} (bs : List UInt8) (hg : B ≤ g) (hF : ¬ F g) (hh : w.heap[g]? = some (.cells (bs.map (fun b => Value.int .u8 (b.toNat : Int))).toArray e (0, 0))) (hm : bs.length ≤ maxLen) :
    Own kU8 e w B F (.slice (some ⟨g, 0, none⟩) bs.length bs.length) bs := by
  refine Own.of_block1 (cur := (bs.map (fun b => Value.int .u8 (b.toNat : Int))).toArray) rfl hg hF hh (Nat.le_refl _) hm (by simp) ?_
  have : (bs.map (fun b => Value.int .u8 (b.toNat : Int))).toArray.toList.take bs.length = bs.map (fun b => Value.int .u8 (b.toNat : Int)) := by rw [List.take_of_length_le (by simp)]
  rw [this]
  refine ⟨by simp [kU8], fun j x hj => ?_⟩
  have hjl := (List.getElem?_eq_some_iff.1 hj).1
  show ((bs.map (fun b => Value.int .u8 (b.toNat : Int))).drop (j * 1)).take 1 = [Value.int .u8 (x.toNat : Int)]
  rw [Nat.mul_one, ← List.map_drop, List.drop_eq_getElem_cons hjl]
  simp only [List.map_cons, List.take_succ_cons, List.take_zero, List.cons.injEq, and_true]
  rw [(List.getElem?_eq_some_iff.1 hj).2]
end Go.Proofs.Ytmcdimcjmafaoaa.B
