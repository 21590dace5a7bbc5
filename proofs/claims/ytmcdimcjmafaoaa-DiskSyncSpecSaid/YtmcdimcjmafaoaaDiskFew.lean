/- ref47.Few answers, one way or the other. -/
import Derived.Test.YtmcdimcjmafaoaaDiskD
namespace Go.Proofs.Ytmcdimcjmafaoaa.B
set_option linter.unusedVariables false
set_option linter.unusedSimpArgs false
open Go.RowKit

def SomeB (w : World) (e : Ending) (w' : World) : Prop := ∃ q, e = .returned (.bool q) ∧ Below w.heap.size w w'
set_option maxRecDepth 100000 in
set_option maxHeartbeats 2000000 in
theorem dfew_calls {d : Dsk} {w : World} {F : Foot} {cs : List Value} (h : kDsk.K w F d cs) : Calls Try.prog 11 #[.agg cs.toArray] w (SomeB w) := by
  obtain ⟨A, c, A', c', rfl, hs, hp, _⟩ := kDsk_open (Kd.any h)
  have hsl := Nat.le_trans hs.le hs.max
  have hpl := Nat.le_trans hp.le hp.max
  unfold maxLen at hsl hpl
  have HB0 := Lib.hid (dsk_box w d A A' c c')
  obtain ⟨secs, pend, left, stop⟩ := d
  simp only at hsl hpl hs hp HB0 ⊢
  have hb0 := below_box (Below.refl w.heap.size w) (.cells #[.slice A secs.length c, .slice A' pend.length c', .int .i64 left, .bool stop] 25)
  obtain ⟨⟨f1, f2, f3, f4⟩, _⟩ := HB0.out.facts4
  have HS := Lib.hid (hs.old hb0)
  have HP := Lib.hid (hp.old hb0)
  clear h hs hp
  go_enter Try.func11, Try.ntmps11
  go_wp2_with fail
  obtain ⟨w1, hw1⟩ : ∃ w1, w.alloc (.cells #[.slice A secs.length c, .slice A' pend.length c', .int .i64 left, .bool stop] 25) = w1 := ⟨_, rfl⟩
  rw [hw1] at f1 f2 f3 f4 HS HP hb0 ⊢
  clear hw1 HB0
  go_loop [3, 4] (fun n i => ∃ (k : Nat) (z : Int), k ≤ secs.length ∧ i = .int .i64 k ∧ n = .int .i64 z) (fun _ i => secs.length - (intOf i).toNat)
  case atStart => exact ⟨0, 0, Nat.zero_le _, rfl, rfl⟩
  case round =>
    obtain ⟨k, z, hk, rfl, rfl⟩ := hrel
    by_cases hgo : k < secs.length ∧ z ≤ 9000
    · obtain ⟨h1, h2⟩ := hgo
      obtain ⟨ad, A1, c1, rfl, f0, _⟩ := SL.sl_at HS.out h1
      go_wp2
      go_round
      case rel => exact ⟨k + 1, _, by omega, by go_num, rfl⟩
      case measure => simp [intOf]; omega
    · have hout : ¬ k < secs.length ∨ (k < secs.length ∧ ¬ z ≤ 9000) := by omega
      clear hgo
      rcases hout with h1 | ⟨h1, h2⟩
      all_goals
        go_wp2_with fail
        go_loop [3, 5] (fun n i => ∃ (k : Nat) (z : Int), k ≤ pend.length ∧ i = .int .i64 k ∧ n = .int .i64 z) (fun _ i => pend.length - (intOf i).toNat)
        case atStart => exact ⟨0, _, Nat.zero_le _, rfl, rfl⟩
        case round =>
          obtain ⟨k, z, hk, rfl, rfl⟩ := hrel
          by_cases hgo : k < pend.length ∧ z ≤ 9000
          · obtain ⟨h1, h2⟩ := hgo
            obtain ⟨ad, A1, c1, rfl, f0, f7, _, _⟩ := wr_at HP.out h1
            go_wp2
            go_round
            case rel => exact ⟨k + 1, _, by omega, by go_num, rfl⟩
            case measure => simp [intOf]; omega
          · have hout : ¬ k < pend.length ∨ (k < pend.length ∧ ¬ z ≤ 9000) := by omega
            clear hgo
            rcases hout with h1 | ⟨h1, h2⟩
            all_goals
              go_wp2
              go_ret
              exact ⟨_, rfl, hb0⟩
end Go.Proofs.Ytmcdimcjmafaoaa.B
