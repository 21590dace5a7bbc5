import Derived.Test.YtmcdimcjmafaoaaDiskM
namespace Go.Proofs.Ytmcdimcjmafaoaa.B
set_option linter.unusedVariables false
set_option linter.unusedSimpArgs false
open Go.RowKit

/-- Bytes that were there, and an error. -/
def ReadR (xs : List UInt8) (z : Int) (w : World) (e : Ending) (w' : World) : Prop := ∃ A c, e = .returned (.tuple #[.slice A xs.length c, .int .i64 z]) ∧ SL kU8 w' (Old w) A c xs ∧ Below w.heap.size w w'
theorem lastAt_take {l : List Wr} {p : Int} {b : List UInt8} {i : Nat} (hi : i < l.length) : lastAt p (l.take (i + 1)) b = if l[i].pos = p then l[i].data else lastAt p (l.take i) b := by
  unfold lastAt
  rw [List.take_succ_eq_append_getElem hi, List.foldl_append]
  rfl
theorem read_no {d : Dsk} {p : Int} (h : (d.runs && d.has p) = false) : readE d p = 470 ∧ readD d p = [] := by unfold readE readD; rw [h]; exact ⟨rfl, rfl⟩
theorem read_at {d : Dsk} {p : Int} {j : Nat} (hj : p = (j : Int)) (hl : j < d.secs.length) (h : (d.runs && d.has p) = true) : readE d p = 0 ∧ readD d p = lastAt p d.pend d.secs[j] := by
  unfold readE readD; rw [h, hj, show ((j : Int)).toNat = j by omega, List.getD_eq_getElem?_getD, List.getElem?_eq_getElem hl]; exact ⟨rfl, rfl⟩
set_option maxRecDepth 100000 in
set_option maxHeartbeats 2000000 in
theorem rread_calls {d : Dsk} {p : Int} {w : World} {cs : List Value} (h : kDsk.K w (Old w) d cs) (hp : I64 p) : Calls Try.prog 22 #[.agg cs.toArray, .int .i64 p] w (ReadR (readD d p) (readE d p) w) := by
  have H := Lib.hid h
  obtain ⟨A, c, A', c', rfl, hs, hpe, hl⟩ := kDsk_open h
  have HS := Lib.hid hs
  have HP := Lib.hid hpe
  have hsm := Nat.le_trans hs.le hs.max
  have hpm := Nat.le_trans hpe.le hpe.max
  unfold maxLen at hsm hpm
  obtain ⟨p1, p2⟩ := hp
  clear h hs hpe hl
  have HRC := runs_cases d
  have HHS : d.has p = (decide (0 ≤ p) && decide (p < (d.secs.length : Int))) := rfl
  obtain ⟨secs, pend, left, stop⟩ := d
  simp only at hsm hpm HS HP H HRC HHS ⊢
  have HB := Lib.hid (dsk_box w ⟨secs, pend, left, stop⟩ A A' c c')
  have HBW : Hid (Below w.heap.size w (w.alloc (.cells #[.slice A secs.length c, .slice A' pend.length c', .int .i64 left, .bool stop] 25))) := below_box (Below.refl _ _) _
  simp only at HB
  obtain ⟨⟨f1, f2, f3, f4⟩, _⟩ := HB.out.facts4
  rcases HRC with ⟨hr, hz⟩ | ⟨hr, hz, hst'⟩ | ⟨hr, hz, hst'⟩
  · have HZ := Lib.hid hz
    have HE := Lib.hid (read_no (p := p) (d := ⟨secs, pend, left, stop⟩) (by rw [hr]; rfl))
    clear hr hz HHS
    go_enter Try.func22, Try.ntmps22
    go_wp2_with fail
    refine (rcheckD_as HZ.out (Kd.old H.out HBW.out)).mono ?_
    rintro e w1 ⟨rfl, hb1⟩
    obtain ⟨⟨e1, e2, e3, e4⟩, e5, e6, e7, e8⟩ := (HB.out.below hb1).facts4
    go_wp2
    go_ret2
    rw [HE.out.1, HE.out.2]
    exact ⟨none, 0, rfl, SL.nil (Nat.zero_le _), below_then HBW.out hb1⟩
  · have HZ := Lib.hid hz
    have HE := Lib.hid (read_no (p := p) (d := ⟨secs, pend, left, stop⟩) (by rw [hr]; rfl))
    subst hst'
    clear hr hz HHS
    go_enter Try.func22, Try.ntmps22
    go_wp2_with fail
    refine (rcheckD_as HZ.out (Kd.old H.out HBW.out)).mono ?_
    rintro e w1 ⟨rfl, hb1⟩
    obtain ⟨⟨e1, e2, e3, e4⟩, e5, e6, e7, e8⟩ := (HB.out.below hb1).facts4
    go_wp2
    go_ret2
    rw [HE.out.1, HE.out.2]
    exact ⟨none, 0, rfl, SL.nil (Nat.zero_le _), below_then HBW.out hb1⟩
  · have HZ := Lib.hid hz
    subst hst'
    by_cases hin : 0 ≤ p ∧ p < (secs.length : Int)
    · have HH : (Dsk.mk secs pend left false).has p = true := by rw [HHS, decide_eq_true hin.1, decide_eq_true hin.2]; rfl
      obtain ⟨i1, i2⟩ := hin
      obtain ⟨j, rfl⟩ : ∃ j : Nat, p = (j : Int) := ⟨p.toNat, by omega⟩
      have hjl : j < secs.length := by omega
      have HE := Lib.hid (read_at (d := ⟨secs, pend, left, false⟩) rfl hjl (by rw [hr, HH]; rfl))
      clear hr hz HHS HH
      go_enter Try.func22, Try.ntmps22
      go_wp2_with fail
      refine (rcheckD_as HZ.out (Kd.old H.out HBW.out)).mono ?_
      rintro e w1 ⟨rfl, hb1⟩
      obtain ⟨⟨e1, e2, e3, e4⟩, e5, e6, e7, e8⟩ := (HB.out.below hb1).facts4
      have HB1 := Lib.hid (HB.out.below hb1)
      have HBW1 := Lib.hid (below_then HBW.out hb1)
      obtain ⟨ad, A1, c1, rfl, q0, hsl⟩ := SL.sl_at (HS.out.below HBW1.out) hjl
      have HSL : Hid (SL kU8 w1 (Old w) A1 c1 (lastAt (j : Int) (pend.take 0) secs[j])) := hsl
      have hl0 : secs[j].length = (lastAt (j : Int) (pend.take 0) secs[j]).length := rfl
      clear hsl hb1 HBW HB
      go_wp2_with fail
      go_loopw [6, 7] (fun v' i' wr => ∃ (i : Nat) (A2 : Option Addr) (c2 : Nat), i' = .int .i64 i ∧ v' = .slice A2 (lastAt (j : Int) (pend.take i) secs[j]).length c2 ∧ i ≤ pend.length ∧ Hid (SL kU8 wr (Old w) A2 c2 (lastAt (j : Int) (pend.take i) secs[j])) ∧ Hid (Blk wr w.heap.size 25 [.slice (some ad) secs.length c, .slice A' pend.length c', .int .i64 left, .bool false]) ∧ Hid (Below w.heap.size w wr)) (fun _ i' _ => pend.length - (intOf i').toNat)
      case atStart => exact ⟨0, A1, c1, rfl, rfl, Nat.zero_le _, HSL, HB1, HBW1⟩
      case round =>
        obtain ⟨i, A2, c2, rfl, rfl, hi, hsl, hB, hW⟩ := hrel
        clear HSL HB1 HBW1 e1 e2 e3 e4 e5 e6 e7 e8 f1 f2 f3 f4 q0
        obtain ⟨⟨f1, f2, f3, f4⟩, _⟩ := hB.out.facts4
        by_cases hin : i < pend.length
        · obtain ⟨ad', A3, c3, rfl, g0, g1, hpos, hsl3⟩ := wr_at (HP.out.below hW.out) hin
          have HLT := Lib.hid (lastAt_take (p := (j : Int)) (b := secs[j]) hin)
          have HSL3 := Lib.hid hsl3
          clear hsl3 hpos
          by_cases he : pend[i].pos = (j : Int)
          · have HX : Hid (lastAt (j : Int) (pend.take (i + 1)) secs[j] = pend[i].data) := by show _ = _; rw [HLT.out, if_pos he]
            rw [he] at g0
            clear he
            go_wp2
            go_roundw
            case rel => exact ⟨i + 1, A3, c3, by go_num, by rw [HX.out], by omega, by rw [HX.out]; exact HSL3, hB, hW⟩
            case measure => simp [intOf]; omega
          · have HX : Hid (lastAt (j : Int) (pend.take (i + 1)) secs[j] = lastAt (j : Int) (pend.take i) secs[j]) := by show _ = _; rw [HLT.out, if_neg he]
            go_wp2
            go_roundw
            case rel => exact ⟨i + 1, A2, c2, by go_num, by rw [HX.out], by omega, by rw [HX.out]; exact hsl, hB, hW⟩
            case measure => simp [intOf]; omega
        · obtain rfl : i = pend.length := by omega
          have HSF := Lib.hid hsl.out
          rw [List.take_length] at HSF ⊢
          clear hsl
          go_wp2
          go_ret2
          rw [HE.out.1, HE.out.2]
          exact ⟨A2, c2, rfl, HSF.out, hW.out⟩
    · have HE := Lib.hid (read_no (p := p) (d := ⟨secs, pend, left, false⟩) (by
        rw [hr, HHS, Bool.true_and]
        rcases Int.lt_or_le p 0 with h | h
        · rw [decide_eq_false (by omega : ¬ 0 ≤ p)]; rfl
        · rw [decide_eq_false (by intro h'; exact hin ⟨h, h'⟩ : ¬ p < (secs.length : Int)), Bool.and_false]))
      have hcase : p < 0 ∨ (0 ≤ p ∧ (secs.length : Int) ≤ p) := by
        rcases Int.lt_or_le p 0 with h | h
        · exact .inl h
        · exact .inr ⟨h, by rcases Int.lt_or_le p (secs.length : Int) with h' | h'; · exact absurd ⟨h, h'⟩ hin
                            · exact h'⟩
      clear hr hz HHS hin
      rcases hcase with hc | ⟨hc, hc'⟩
      all_goals
        go_enter Try.func22, Try.ntmps22
        go_wp2_with fail
        refine (rcheckD_as HZ.out (Kd.old H.out HBW.out)).mono ?_
        rintro e w1 ⟨rfl, hb1⟩
        obtain ⟨⟨e1, e2, e3, e4⟩, e5, e6, e7, e8⟩ := (HB.out.below hb1).facts4
        go_wp2
        go_ret2
        rw [HE.out.1, HE.out.2]
        exact ⟨none, 0, rfl, SL.nil (Nat.zero_le _), below_then HBW.out hb1⟩
end Go.Proofs.Ytmcdimcjmafaoaa.B
