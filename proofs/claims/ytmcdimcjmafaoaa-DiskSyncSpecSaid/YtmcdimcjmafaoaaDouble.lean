/- law47.double: a sector both halves of which begin with a byte. -/
import Derived.Test.YtmcdimcjmafaoaaDiskK
namespace Go.Proofs.Ytmcdimcjmafaoaa.B
set_option linter.unusedVariables false
set_option linter.unusedSimpArgs false
open Go.RowKit

def dbl (c : UInt8) : List UInt8 := ((List.replicate 128 (0 : UInt8)).set 0 c).set 64 c
/-- Bytes that are handed back. -/
def BytesR (xs : List UInt8) (m : Nat) (w : World) (e : Ending) (w' : World) : Prop := ∃ A c, e = .returned (.slice A m c) ∧ SL kU8 w' (Old w') A c xs ∧ Below w.heap.size w w'
theorem bcells_set (xs : List UInt8) (i : Nat) (c : UInt8) : (bcells xs).set i (.int .u8 (c.toNat : Int)) = bcells (xs.set i c) := by unfold bcells; rw [List.map_set]
theorem blk_bytes {w : World} {g : Nat} {t : TypeId} {xs : List UInt8} {m : Nat} (hm : xs.length = m) (h : Blk w g t (bcells xs)) (hl : xs.length ≤ maxLen) : SL kU8 w (Old w) (some ⟨g, 0, none⟩) m xs := by
  subst hm
  obtain ⟨A, c, e, hs⟩ := (own_bytes_block (B := g) (F := fun _ => False) xs (Nat.le_refl _) (fun h => h) h hl).sl (F' := Old w) (fun _ h _ => h.elim) (fun k hk => by have := own_is hk; subst this; exact h.lt)
  injection e with e1 _ e3
  subst e1; subst e3
  exact hs
set_option maxRecDepth 100000 in
set_option maxHeartbeats 1000000 in
theorem double_calls {w : World} {c : UInt8} : Calls Try.prog 27 #[.int .u8 c.toNat] w (BytesR (dbl c) 128 w) := by
  have hmk := fun w => make128z w
  have hB0 := Blk.new w 5 zcells
  have HB1 := hB0.set 0 (.int .u8 (c.toNat : Int))
  have c0 := hB0.cell (i := 0) (u := .int .u8 0) rfl
  have d0 := hB0.frozen 0
  have c1 := HB1.cell (i := 64) (u := .int .u8 0) (by rw [List.getElem?_set_ne (by decide)]; rfl)
  have d1 := HB1.frozen 64
  clear hB0 HB1
  go_enter Try.func27, Try.ntmps27
  go_wp2
  go_ret
  refine ⟨some ⟨w.heap.size, 0, none⟩, 128, rfl, ?_, below_box (Below.refl _ _) _⟩
  have h := Blk.new w 5 (bcells (dbl c))
  have e : ((zcells.set 0 (.int .u8 (c.toNat : Int))).set 64 (.int .u8 (c.toNat : Int))) = bcells (dbl c) := by
    rw [show zcells = bcells (List.replicate 128 0) from rfl, bcells_set, bcells_set]; rfl
  rw [e]
  exact blk_bytes (by simp [dbl]) h (by simp [dbl, maxLen])
end Go.Proofs.Ytmcdimcjmafaoaa.B
