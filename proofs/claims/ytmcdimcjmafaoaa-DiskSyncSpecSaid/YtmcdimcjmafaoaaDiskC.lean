import Derived.Test.YtmcdimcjmafaoaaDiskB
namespace Go.Proofs.Ytmcdimcjmafaoaa.B
set_option linter.unusedVariables false
set_option linter.unusedSimpArgs false
open Go.RowKit

/-- An answer without a memory of its own. -/
def Says (a : Value) (w : World) (e : Ending) (w' : World) : Prop := e = .returned a ∧ Below w.heap.size w w'
theorem Says.of {a b : Value} {w w' : World} (h : b = a) (hb : Below w.heap.size w w') : Says a w (.returned b) w' := ⟨by rw [h], hb⟩
theorem valid_false {d : Dsk} (h : ¬ (1 ≤ d.secs.length ∧ d.secs.length ≤ 4096 ∧ d.pend.length ≤ 4096 ∧ -1 ≤ d.left ∧ d.left ≤ 65536 ∧ d.pend.all (okWr d.secs.length) = true ∧ d.secs.all okSec = true)) : d.valid = false := by
  rw [← Bool.not_eq_true]
  intro hv
  unfold Dsk.valid at hv
  simp only [Bool.and_eq_true, decide_eq_true_eq] at hv
  exact h ⟨hv.1.1.1.1.1.1, hv.1.1.1.1.1.2, hv.1.1.1.1.2, hv.1.1.1.2, hv.1.1.2, hv.1.2, hv.2⟩
theorem valid_true {d : Dsk} (h : 1 ≤ d.secs.length ∧ d.secs.length ≤ 4096 ∧ d.pend.length ≤ 4096 ∧ -1 ≤ d.left ∧ d.left ≤ 65536 ∧ d.pend.all (okWr d.secs.length) = true ∧ d.secs.all okSec = true) : d.valid = true := by
  unfold Dsk.valid
  simp only [Bool.and_eq_true, decide_eq_true_eq]
  exact ⟨⟨⟨⟨⟨⟨h.1, h.2.1⟩, h.2.2.1⟩, h.2.2.2.1⟩, h.2.2.2.2.1⟩, h.2.2.2.2.2.1⟩, h.2.2.2.2.2.2⟩
theorem checkD_bad {d : Dsk} (h : d.valid = false) : checkD d = 470 := by unfold checkD; rw [h]; rfl
theorem checkD_ok {d : Dsk} (h : d.valid = true) : checkD d = 0 := by unfold checkD; rw [h]; rfl

set_option maxRecDepth 100000 in
set_option maxHeartbeats 4000000 in
/-- disk.Check. -/
theorem checkD_calls {d : Dsk} {w : World} {cs : List Value} (h : kDsk.K w (Old w) d cs) : Calls Try.prog 15 #[.agg cs.toArray] w (Says (.int .i64 (checkD d)) w) := by
  have hmf : ∀ (fn : Fn) (first cap : Array Value) (w : World), (Instr.makeFunc fn first cap).run Try.prog w = .ok (.func fn first cap) w := fun _ _ _ _ => rfl
  obtain ⟨A, c, A', c', rfl, hs, hp, l1, l2⟩ := kDsk_open h
  have hsl := Nat.le_trans hs.le hs.max
  have hpl := Nat.le_trans hp.le hp.max
  unfold maxLen at hsl hpl
  have HS := Lib.hid hs
  have HP := Lib.hid hp
  clear h hs hp
  obtain ⟨secs, pend, left, stop⟩ := d
  simp only at l1 l2 hsl hpl HS HP ⊢
  have HB0 := Lib.hid (Blk.new w 25 [.slice A secs.length c, .slice A' pend.length c', .int .i64 left, .bool stop])
  have HB1 := Lib.hid (HB0.out.below (below_box (Below.refl _ _) (.cells #[.int .i64 secs.length] 3)))
  have hn1 := Blk.new (w.alloc (.cells [.slice A secs.length c, .slice A' pend.length c', .int .i64 left, .bool stop].toArray 25)) 3 [.int .i64 secs.length]
  rw [World.size_alloc] at hn1
  have HN1 := Lib.hid hn1
  clear hn1
  obtain ⟨⟨f1, f2, f3, f4⟩, _⟩ := HB1.out.facts4
  obtain ⟨n1, _⟩ := HN1.out.facts1
  by_cases c1 : secs.length < 1
  · go_enter Try.func15, Try.ntmps15
    go_wp2
    go_ret
    exact Says.of (congrArg (Value.int .i64) (checkD_bad (valid_false (by rintro ⟨h1, h2, h3, h4, h5, _⟩; simp only at h1 h2 h3 h4 h5; omega))).symm) (below_box (below_box (Below.refl _ _) _) _)
  by_cases c2 : 4096 < secs.length
  · go_enter Try.func15, Try.ntmps15
    go_wp2
    go_ret
    exact Says.of (congrArg (Value.int .i64) (checkD_bad (valid_false (by rintro ⟨h1, h2, h3, h4, h5, _⟩; simp only at h1 h2 h3 h4 h5; omega))).symm) (below_box (below_box (Below.refl _ _) _) _)
  by_cases c3 : 4096 < pend.length
  · go_enter Try.func15, Try.ntmps15
    go_wp2
    go_ret
    exact Says.of (congrArg (Value.int .i64) (checkD_bad (valid_false (by rintro ⟨h1, h2, h3, h4, h5, _⟩; simp only at h1 h2 h3 h4 h5; omega))).symm) (below_box (below_box (Below.refl _ _) _) _)
  by_cases c4 : left < -1
  · go_enter Try.func15, Try.ntmps15
    go_wp2
    go_ret
    exact Says.of (congrArg (Value.int .i64) (checkD_bad (valid_false (by rintro ⟨h1, h2, h3, h4, h5, _⟩; simp only at h1 h2 h3 h4 h5; omega))).symm) (below_box (below_box (Below.refl _ _) _) _)
  by_cases c5 : 65536 < left
  · go_enter Try.func15, Try.ntmps15
    go_wp2
    go_ret
    exact Says.of (congrArg (Value.int .i64) (checkD_bad (valid_false (by rintro ⟨h1, h2, h3, h4, h5, _⟩; simp only at h1 h2 h3 h4 h5; omega))).symm) (below_box (below_box (Below.refl _ _) _) _)
  have hC := containsW_calls (w := (w.alloc (.cells #[.slice A secs.length c, .slice A' pend.length c', .int .i64 left, .bool stop] 25)).alloc (.cells #[.int .i64 secs.length] 3)) (HP.out.old (below_box (below_box (Below.refl _ _) _) _)) n1
  cases c6 : pend.all (okWr secs.length)
  · rw [c6] at hC
    have HC := Lib.hid hC
    clear hC
    have HEND : Hid (checkD ⟨secs, pend, left, stop⟩ = 470) := checkD_bad (valid_false (by rintro ⟨h1, h2, h3, h4, h5, h6, h7⟩; rw [h6] at c6; cases c6))
    clear c6
    go_enter Try.func15, Try.ntmps15
    go_wp2_with fail
    refine HC.out.mono ?_
    rintro e w1 ⟨rfl, hb1⟩
    go_wp2
    go_ret
    exact Says.of (congrArg (Value.int .i64) HEND.out.symm) (below_then (below_box (below_box (Below.refl _ _) _) _) hb1)
  · rw [c6] at hC
    have HC := Lib.hid hC
    clear hC
    have HS1 := Lib.hid (HS.out.old (below_box (below_box (Below.refl _ _) (.cells #[.slice A secs.length c, .slice A' pend.length c', .int .i64 left, .bool stop] 25)) (.cells #[.int .i64 secs.length] 3)))
    cases c7 : secs.all okSec
    · have HEND : Hid (checkD ⟨secs, pend, left, stop⟩ = 470) := checkD_bad (valid_false (by rintro ⟨h1, h2, h3, h4, h5, h6, h7⟩; rw [h7] at c7; cases c7))
      have H7 := Lib.hid c7
      clear c6 c7
      go_enter Try.func15, Try.ntmps15
      go_wp2_with fail
      refine HC.out.mono ?_
      rintro e w1 ⟨rfl, hb1⟩
      obtain ⟨⟨g1, g2, g3, g4⟩, _⟩ := (HB1.out.below hb1).facts4
      go_wp2_with fail
      refine (containsB_calls (HS1.out.old hb1)).mono ?_
      rw [H7.out]
      rintro e w2 ⟨rfl, hb2⟩
      go_wp2
      go_ret
      exact Says.of (congrArg (Value.int .i64) HEND.out.symm) (below_then (below_then (below_box (below_box (Below.refl _ _) _) _) hb1) hb2)
    · have HEND : Hid (checkD ⟨secs, pend, left, stop⟩ = 0) := checkD_ok (valid_true ⟨by simp only; omega, by simp only; omega, by simp only; omega, by simp only; omega, by simp only; omega, c6, c7⟩)
      have H7 := Lib.hid c7
      clear c6 c7
      go_enter Try.func15, Try.ntmps15
      go_wp2_with fail
      refine HC.out.mono ?_
      rintro e w1 ⟨rfl, hb1⟩
      obtain ⟨⟨g1, g2, g3, g4⟩, _⟩ := (HB1.out.below hb1).facts4
      go_wp2_with fail
      refine (containsB_calls (HS1.out.old hb1)).mono ?_
      rw [H7.out]
      rintro e w2 ⟨rfl, hb2⟩
      go_wp2
      go_ret
      exact Says.of (congrArg (Value.int .i64) HEND.out.symm) (below_then (below_then (below_box (below_box (Below.refl _ _) _) _) hb1) hb2)
end Go.Proofs.Ytmcdimcjmafaoaa.B
