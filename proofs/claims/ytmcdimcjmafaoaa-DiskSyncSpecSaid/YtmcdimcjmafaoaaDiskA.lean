import Derived.Test.YtmcdimcjmafaoaaDisk
import Derived.Test.YtmcdimcjmafaoaaProg
import Derived.Deep.LoopGhost
import Derived.Deep.DeepCutAuto
import Derived.Deep.RegionHeld3
import Derived.WalkLawsBesides
import Derived.Laws.EntriesVeiled
namespace Go.Proofs.Ytmcdimcjmafaoaa.B
set_option linter.unusedVariables false
set_option linter.unusedSimpArgs false
open Go.RowKit

set_option maxRecDepth 100000 in
theorem isSector_calls {w : World} {A : Option Addr} {n c : Nat} : Calls Try.prog 31 #[.slice A n c] w fun e w' => e = .returned (.bool ((n : Int) == 128)) ∧ w = w' := by
  go_enter Try.func31, Try.ntmps31
  go_wp2
  go_ret
  exact ⟨rfl, rfl⟩
theorem okSec_eq (b : List UInt8) : okSec b = ((b.length : Int) == 128) := by
  unfold okSec
  rw [Bool.eq_iff_iff]; simp; omega
set_option maxRecDepth 100000 in
/-- Check's second closure: is the sector none? -/
theorem notSector_calls {w : World} {A : Option Addr} {c : Nat} {b : List UInt8} : Calls Try.prog 34 #[.slice A b.length c] w fun e w' => e = .returned (.bool (!okSec b)) ∧ w = w' := by
  have H := Lib.hid (okSec_eq b)
  go_enter Try.func34, Try.ntmps34
  go_wp2_with fail
  refine isSector_calls.mono ?_
  rintro e w1 ⟨rfl, rfl⟩
  go_wp2
  go_ret
  exact ⟨by rw [H.out]; rfl, rfl⟩
set_option maxRecDepth 100000 in
set_option maxHeartbeats 1000000 in
/-- Check's first closure: is the write bad? -/
theorem badWrite_calls {w : World} {A : Option Addr} {c n g : Nat} {x : Wr} (hn : w.cell? ⟨g, 0, none⟩ = some (.int .i64 n)) (hp : I64 x.pos) :
    Calls Try.prog 30 #[.agg #[.int .i64 x.pos, .slice A x.data.length c], .pointer (some ⟨g, 0, none⟩)] w fun e w' => e = .returned (.bool (!okWr n x)) ∧ Below w.heap.size w w' := by
  have hlt := World.block_lt_of_cell? w _ hn
  have hn' : (w.alloc (.cells #[.int .i64 x.pos, .slice A x.data.length c] 54)).cell? ⟨g, 0, none⟩ = some (.int .i64 n) := by rw [World.cell?_alloc_lt _ _ _ hlt]; exact hn
  have HK := Lib.hid (okSec_eq x.data)
  obtain ⟨q1, q2⟩ := hp
  have HW : Hid (okWr n x = (decide (0 ≤ x.pos) && decide (x.pos < (n : Int)) && okSec x.data)) := rfl
  by_cases c1 : x.pos < 0
  · go_enter Try.func30, Try.ntmps30
    go_wp2
    go_ret
    exact ⟨by rw [HW.out, decide_eq_false (by omega : ¬ 0 ≤ x.pos)]; rfl, below_box (Below.refl _ _) _⟩
  · by_cases c2 : (n : Int) ≤ x.pos
    · go_enter Try.func30, Try.ntmps30
      go_wp2
      go_ret
      exact ⟨by rw [HW.out, decide_eq_false (by omega : ¬ x.pos < (n : Int))]; simp, below_box (Below.refl _ _) _⟩
    · go_enter Try.func30, Try.ntmps30
      go_wp2_with fail
      refine isSector_calls.mono ?_
      rintro e w1 ⟨rfl, rfl⟩
      go_wp2
      go_ret
      exact ⟨by rw [HW.out, decide_eq_true (by omega : 0 ≤ x.pos), decide_eq_true (by omega : x.pos < (n : Int)), HK.out]; rfl, below_box (Below.refl _ _) _⟩
end Go.Proofs.Ytmcdimcjmafaoaa.B
