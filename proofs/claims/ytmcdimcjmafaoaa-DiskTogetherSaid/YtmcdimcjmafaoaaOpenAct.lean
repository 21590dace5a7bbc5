/- Lists of acts that came in, opened. -/
import Derived.Test.YtmcdimcjmafaoaaOpenD
import Derived.Test.YtmcdimcjmafaoaaActs
namespace Go.Proofs.Ytmcdimcjmafaoaa.B
set_option linter.unusedVariables false
set_option linter.unusedSimpArgs false
set_option maxRecDepth 100000
open Go.RowKit

theorem cellsA : Try.prog.cellsOf 46 = 3 := by kernel_rfl
theorem fields_act : fieldsOf Try.prog 46 = some [(4, 0), (5, 1), (5, 2)] := by kernel_rfl
theorem opens_act (n : Nat) : Opens Try.prog n 46 kAct := by
  intro H enc w sp held cs x h
  obtain ⟨m, rfl, hc, hf⟩ := open_struct fields_act h
  rw [cellsA] at hc
  obtain ⟨u0, u1, u2, rfl⟩ : ∃ a b c, cs = [a, b, c] := by
    match cs, hc with
    | [a, b, c], _ => exact ⟨a, b, c, rfl⟩
  obtain ⟨_, h0⟩ := hf _ (List.mem_cons_self)
  obtain ⟨_, h1⟩ := hf _ (List.mem_cons_of_mem _ List.mem_cons_self)
  obtain ⟨_, h2⟩ := hf _ (List.mem_cons_of_mem _ (List.mem_cons_of_mem _ List.mem_cons_self))
  rw [cellsD.2.1] at h0
  rw [cellsD.2.2.2.2.2] at h1 h2
  obtain ⟨b, e0⟩ := opens_bool Try.underlying4 m h0
  obtain ⟨p, e1⟩ := opens_u8 Try.underlying5 m h1
  obtain ⟨q, e2⟩ := opens_u8 Try.underlying5 m h2
  have e0' : [u0] = [Value.bool b] := e0
  have e1' : [u1] = [Value.int .u8 p.toNat] := e1
  have e2' : [u2] = [Value.int .u8 q.toNat] := e2
  injection e0' with e0'
  injection e1' with e1'
  injection e2' with e2'
  subst e0'; subst e1'; subst e2'
  exact ⟨⟨b, p, q⟩, kAct_mk ⟨b, p, q⟩⟩
end Go.Proofs.Ytmcdimcjmafaoaa.B
