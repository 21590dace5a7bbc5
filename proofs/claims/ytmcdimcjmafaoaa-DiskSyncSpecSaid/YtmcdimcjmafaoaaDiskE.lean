import Derived.Test.YtmcdimcjmafaoaaDiskD
namespace Go.Proofs.Ytmcdimcjmafaoaa.B
set_option linter.unusedVariables false
set_option linter.unusedSimpArgs false
open Go.RowKit

theorem all_take {α : Type} {xs : List α} {p : α → Bool} {i : Nat} (hi : i < xs.length) (h : (xs.take i).all p = true) (hp : p xs[i] = true) : (xs.take (i + 1)).all p = true := by
  rw [List.take_succ_eq_append_getElem hi, List.all_append, h]; simp [hp]
theorem all_not {α : Type} {xs : List α} {p : α → Bool} {i : Nat} (hi : i < xs.length) (hp : p xs[i] = false) : ¬ xs.all p = true := fun h => by
  have := List.all_eq_true.1 h _ (List.getElem_mem hi)
  rw [hp] at this; cases this
set_option maxRecDepth 100000 in
set_option maxHeartbeats 4000000 in
/-- The reference's Check. -/
theorem rcheckD_calls {d : Dsk} {w : World} {cs : List Value} (h : kDsk.K w (Old w) d cs) : Calls Try.prog 16 #[.agg cs.toArray] w (Says (.int .i64 (checkD d)) w) := by
  obtain ⟨A, c, A', c', rfl, hs, hp, l1, l2⟩ := kDsk_open h
  have hsl := Nat.le_trans hs.le hs.max
  have hpl := Nat.le_trans hp.le hp.max
  unfold maxLen at hsl hpl
  have HS := Lib.hid hs
  have HP := Lib.hid hp
  clear h hs hp
  obtain ⟨secs, pend, left, stop⟩ := d
  simp only at l1 l2 hsl hpl HS HP ⊢
  have HB0 := Lib.hid (Blk.new w 25 [.slice A secs.length c, .slice A' pend.length c', .int .i64 left, .bool stop])
  obtain ⟨⟨f1, f2, f3, f4⟩, _⟩ := HB0.out.facts4
  by_cases c1 : secs.length < 1
  · go_enter Try.func16, Try.ntmps16
    go_wp2
    go_ret
    exact Says.of (congrArg (Value.int .i64) (checkD_bad (valid_false (by rintro ⟨h1, h2, h3, h4, h5, _⟩; simp only at h1 h2 h3 h4 h5; omega))).symm) (below_box (Below.refl _ _) _)
  by_cases c2 : 4096 < secs.length
  · go_enter Try.func16, Try.ntmps16
    go_wp2
    go_ret
    exact Says.of (congrArg (Value.int .i64) (checkD_bad (valid_false (by rintro ⟨h1, h2, h3, h4, h5, _⟩; simp only at h1 h2 h3 h4 h5; omega))).symm) (below_box (Below.refl _ _) _)
  by_cases c3 : 4096 < pend.length
  · go_enter Try.func16, Try.ntmps16
    go_wp2
    go_ret
    exact Says.of (congrArg (Value.int .i64) (checkD_bad (valid_false (by rintro ⟨h1, h2, h3, h4, h5, _⟩; simp only at h1 h2 h3 h4 h5; omega))).symm) (below_box (Below.refl _ _) _)
  by_cases c4 : left < -1
  · go_enter Try.func16, Try.ntmps16
    go_wp2
    go_ret
    exact Says.of (congrArg (Value.int .i64) (checkD_bad (valid_false (by rintro ⟨h1, h2, h3, h4, h5, _⟩; simp only at h1 h2 h3 h4 h5; omega))).symm) (below_box (Below.refl _ _) _)
  by_cases c5 : 65536 < left
  · go_enter Try.func16, Try.ntmps16
    go_wp2
    go_ret
    exact Says.of (congrArg (Value.int .i64) (checkD_bad (valid_false (by rintro ⟨h1, h2, h3, h4, h5, _⟩; simp only at h1 h2 h3 h4 h5; omega))).symm) (below_box (Below.refl _ _) _)
  have HB1 : Hid (Below w.heap.size w (w.alloc (.cells #[.slice A secs.length c, .slice A' pend.length c', .int .i64 left, .bool stop] 25))) := below_box (Below.refl _ _) _
  go_enter Try.func16, Try.ntmps16
  go_wp2_with fail
  go_loopw [4] (fun i' wr => ∃ i : Nat, i' = .int .i64 i ∧ i ≤ secs.length ∧ Hid ((secs.take i).all okSec = true) ∧ Hid (Blk wr w.heap.size 25 [.slice A secs.length c, .slice A' pend.length c', .int .i64 left, .bool stop]) ∧ Hid (Below w.heap.size w wr)) (fun i' _ => secs.length - (intOf i').toNat)
  case atStart => exact ⟨0, rfl, Nat.zero_le _, rfl, HB0, HB1⟩
  case round =>
    obtain ⟨i, rfl, hi, hall, hbx, hb⟩ := hrel
    clear HB1 HB0 f1 f2 f3 f4
    obtain ⟨⟨f1, f2, f3, f4⟩, _⟩ := hbx.out.facts4
    by_cases hin : i < secs.length
    · obtain ⟨ad, A1, c1', rfl, g0, hs⟩ := SL.sl_at (HS.out.old hb.out) hin
      have HK := Lib.hid (okSec_eq secs[i])
      by_cases hk : secs[i].length = 128
      · have HX : Hid ((secs.take (i + 1)).all okSec = true) := all_take hin hall.out (by rw [HK.out, hk]; rfl)
        have hk' : ((secs[i].length : Int) != 128) = false := by rw [hk]; rfl
        clear hk hs
        go_wp2
        go_roundw
        case rel => exact ⟨i + 1, by go_num, by omega, HX, hbx, hb⟩
        case measure => simp [intOf]; omega
      · have hk' : ((secs[i].length : Int) != 128) = true := by simp; omega
        have HEND : Hid (checkD ⟨secs, pend, left, stop⟩ = 470) := checkD_bad (valid_false (by rintro ⟨h1, h2, h3, h4, h5, h6, h7⟩; exact all_not hin (by rw [HK.out]; simp; omega) h7))
        clear hk hs
        go_wp2
        go_ret
        exact Says.of (congrArg (Value.int .i64) HEND.out.symm) hb.out
    · obtain rfl : i = secs.length := by omega
      have HALL := Lib.hid hall.out
      rw [List.take_length] at HALL
      clear hall
      go_wp2_with fail
      go_loopw [5] (fun i' wr => ∃ i : Nat, i' = .int .i64 i ∧ i ≤ pend.length ∧ Hid ((pend.take i).all (okWr secs.length) = true) ∧ Hid (Blk wr w.heap.size 25 [.slice A secs.length c, .slice A' pend.length c', .int .i64 left, .bool stop]) ∧ Hid (Below w.heap.size w wr)) (fun i' _ => pend.length - (intOf i').toNat)
      case atStart => exact ⟨0, rfl, Nat.zero_le _, rfl, hbx, hb⟩
      case round =>
        obtain ⟨i, rfl, hi2, hall, hbx2, hb2⟩ := hrel
        clear hb hbx f1 f2 f3 f4
        obtain ⟨⟨f1, f2, f3, f4⟩, _⟩ := hbx2.out.facts4
        by_cases hin2 : i < pend.length
        · obtain ⟨ad, A1, c1', rfl, g0, g1, hp, hs⟩ := wr_at (HP.out.old hb2.out) hin2
          obtain ⟨q1, q2⟩ := hp
          have HW : Hid (okWr secs.length pend[i] = (decide (0 ≤ pend[i].pos) && decide (pend[i].pos < (secs.length : Int)) && ((pend[i].data.length : Int) == 128))) := by show okWr _ _ = _; unfold okWr; rw [okSec_eq]
          have hbx3 := Lib.hid (hbx2.out.below (below_box (Below.refl _ _) (.cells #[.int .i64 pend[i].pos, .slice A1 pend[i].data.length c1'] 54)))
          by_cases hgood : 0 ≤ pend[i].pos ∧ pend[i].pos < (secs.length : Int) ∧ pend[i].data.length = 128
          · obtain ⟨a1, a2, a3⟩ := hgood
            have HX : Hid ((pend.take (i + 1)).all (okWr secs.length) = true) := all_take hin2 hall.out (by rw [HW.out, decide_eq_true a1, decide_eq_true a2, a3]; rfl)
            have hk' : ((pend[i].data.length : Int) != 128) = false := by rw [a3]; rfl
            clear a3 hs
            go_wp2
            go_roundw
            case rel => exact ⟨i + 1, by go_num, by omega, HX, hbx3, below_box hb2.out _⟩
            case measure => simp [intOf]; omega
          · have HEND : Hid (checkD ⟨secs, pend, left, stop⟩ = 470) := checkD_bad (valid_false (by
              rintro ⟨h1, h2, h3, h4, h5, h6, h7⟩
              refine all_not hin2 ?_ h6
              rw [HW.out]
              rw [← Bool.not_eq_true]
              intro ht
              simp only [Bool.and_eq_true, decide_eq_true_eq, beq_iff_eq] at ht
              exact hgood ⟨ht.1.1, ht.1.2, by omega⟩))
            have hcase : pend[i].pos < 0 ∨ (0 ≤ pend[i].pos ∧ (secs.length : Int) ≤ pend[i].pos) ∨ (0 ≤ pend[i].pos ∧ pend[i].pos < (secs.length : Int) ∧ ((pend[i].data.length : Int) != 128) = true) := by
              rcases Int.lt_or_le pend[i].pos 0 with h | h
              · exact .inl h
              · rcases Int.lt_or_le pend[i].pos (secs.length : Int) with h' | h'
                · exact .inr (.inr ⟨h, h', by simp; intro e; exact hgood ⟨h, h', by omega⟩⟩)
                · exact .inr (.inl ⟨h, h'⟩)
            clear hgood hs
            rcases hcase with h | ⟨h, h'⟩ | ⟨h, h', h''⟩
            all_goals
              go_wp2
              go_ret
              exact Says.of (congrArg (Value.int .i64) HEND.out.symm) (below_box hb2.out _)
        · obtain rfl : i = pend.length := by omega
          have HP2 := Lib.hid hall.out
          rw [List.take_length] at HP2
          have HEND : Hid (checkD ⟨secs, pend, left, stop⟩ = 0) := checkD_ok (valid_true ⟨by simp only; omega, by simp only; omega, by simp only; omega, by simp only; omega, by simp only; omega, HP2.out, HALL.out⟩)
          clear hall
          go_wp2
          go_ret
          exact Says.of (congrArg (Value.int .i64) HEND.out.symm) hb2.out
end Go.Proofs.Ytmcdimcjmafaoaa.B
