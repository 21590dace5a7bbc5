/- DiskStopped answers true. -/
import Derived.Test.YtmcdimcjmafaoaaDLawWrite
import Derived.IntWalk
namespace Go.Proofs.Ytmcdimcjmafaoaa.B
set_option linter.unusedVariables false
set_option linter.unusedSimpArgs false
open Go.RowKit

theorem kDsk_rows {w : World} {F : Foot} {d : Dsk} {A A' : Option Addr} {n c m c' : Nat} {l : Int} {s : Bool} (h : kDsk.K w F d [.slice A n c, .slice A' m c', .int .i64 l, .bool s]) :
    SL kBytes w F A c d.secs ∧ SL kWr w F A' c' d.pend ∧ I64 d.left ∧ n = d.secs.length ∧ m = d.pend.length ∧ l = d.left ∧ s = d.stop := by
  obtain ⟨B, b, B', b', e, h1, h2, h3⟩ := kDsk_open h
  injection e with e1 e
  injection e with e2 e
  injection e with e3 e
  injection e with e4 _
  injection e1 with a1 a2 a3
  injection e2 with b1 b2 b3
  injection e3 with _ c1
  injection e4 with d1
  subst a1; subst a3; subst b1; subst b3
  exact ⟨h1, h2, h3, a2, b2, c1, d1⟩
/-- The disk, stopped. -/
def stopped (d : Dsk) : Dsk := ⟨d.secs, d.pend, d.left, true⟩
theorem stopped_runs (d : Dsk) : (stopped d).runs = false := by unfold Dsk.runs stopped; simp
theorem stopped_e (d : Dsk) (p n : Int) (b : List UInt8) : readE (stopped d) p = 470 ∧ readD (stopped d) p = [] ∧ writeE (stopped d) p b = 470 ∧ syncE (stopped d) = 470 ∧ stopE (stopped d) n = 470 := by
  have h := stopped_runs d
  refine ⟨(read_no (by rw [h]; rfl)).1, (read_no (by rw [h]; rfl)).2, (writeE_no (by rw [h]; rfl)).1, (sync_no h).1, ?_⟩
  unfold stopE; rw [h]; rfl
theorem kDsk_is {w : World} {F : Foot} {d : Dsk} {A A' : Option Addr} {n c m c' : Nat} {l : Int} {s : Bool} (h1 : SL kBytes w F A c d.secs) (h2 : SL kWr w F A' c' d.pend) (h3 : I64 d.left) (en : n = d.secs.length) (em : m = d.pend.length) (el : l = d.left) (es : s = d.stop) :
    kDsk.K w F d [.slice A n c, .slice A' m c', .int .i64 l, .bool s] := by
  subst en; subst em; subst el; subst es
  exact kDsk_mk h1 h2 h3
set_option maxRecDepth 100000 in
set_option maxHeartbeats 4000000 in
theorem stoppedLaw_calls {d : Dsk} {p l : Int} {b : List UInt8} {w : World} {cs : List Value} {Ab : Option Addr} {cb : Nat} (hK0 : kDsk.K w (Old w) d cs) (hp : I64 p) (hl : I64 l) (hb : SL kU8 w (Old w) Ab cb b) :
    Calls Try.prog 9 #[.agg cs.toArray, .int .i64 p, .int .i64 l, .slice Ab b.length cb] w (Says (.bool true) w) := by
  obtain ⟨A0, n0, c0, B0, m0, d0, l0, s0, rfl, hK0⟩ := kDsk_shape hK0
  have HP := Lib.hid hp
  have HL := Lib.hid hl
  have HBS := Lib.hid hb
  obtain ⟨nb, hnb⟩ : ∃ nb, b.length = nb := ⟨_, rfl⟩
  have hbl := Nat.le_trans hb.le hb.max
  unfold maxLen at hbl
  rw [hnb] at hbl ⊢
  have HNB := Lib.hid hnb
  obtain ⟨hs0, hp0, hl0, en0, em0, el0, es0⟩ := kDsk_rows hK0
  have hnl := Nat.le_trans hs0.le hs0.max
  unfold maxLen at hnl
  rw [← en0] at hnl
  have HS0 := Lib.hid hs0
  have HP0 := Lib.hid hp0
  have HL0 := Lib.hid hl0
  have EN0 := Lib.hid en0
  have EM0 := Lib.hid em0
  have EL0 := Lib.hid el0
  have D0 := Lib.hid (DV.new hK0)
  have HB0 := Lib.hid (below_box (Below.refl w.heap.size w) (.cells #[.slice A0 n0 c0, .slice B0 m0 d0, .int .i64 l0, .bool s0] 25))
  clear hK0 hb hnb hs0 hp0 hl0 en0 em0 el0 es0 hp hl
  go_enter Try.func9, Try.ntmps9
  go_wp2_with fail
  refine sane47_calls.mono ?_
  rintro e w1 ⟨rfl, hb1⟩
  have D1 := Lib.hid (D0.out.below hb1)
  have HB1 := Lib.hid (below_then HB0.out hb1)
  clear hb1 D0 HB0
  have f := D1.out.facts
  go_wp2_with fail
  refine (dfew_calls D1.out.k).mono ?_
  rintro e w2 ⟨q, rfl, hb2⟩
  have D2 := Lib.hid (D1.out.below hb2)
  have HB2 := Lib.hid (below_then HB1.out hb2)
  clear hb2 f D1 HB1
  cases q
  · go_wp2
    go_ret
    exact Says.of rfl HB2.out
  · by_cases hbig : 1000 < nb
    · go_wp2
      go_ret
      exact Says.of rfl HB2.out
    · have f := D2.out.facts
      go_wp2_with fail
      refine (restart_as (d' := restartD d) rfl D2.out.k).mono ?_
      rintro e w5 ⟨cs5, rfl, hK5, hb5⟩
      obtain ⟨A5, n5, c5, B5, m5, d5, l5, s5, rfl, hK5⟩ := kDsk_shape hK5
      obtain ⟨hs5, _, _, en5, em5, el5, es5⟩ := kDsk_rows hK5
      have en5' : n0 = n5 := EN0.out.trans en5.symm
      have em5' : 0 = m5 := em5.symm
      have el5' : -1 = l5 := el5.symm
      have es5' : false = s5 := es5.symm
      clear en5 em5 el5 es5
      subst en5' em5' el5' es5'
      obtain ⟨F5, D5, HS5⟩ : ∃ F, Hid (DV (w5.alloc (.cells #[.slice A5 n0 c5, .slice B5 0 d5, .int .i64 (-1), .bool false] 25)) F w5.heap.size (restartD d) A5 n0 c5 B5 0 d5 (-1) false) ∧ Hid (SL kBytes (w5.alloc (.cells #[.slice A5 n0 c5, .slice B5 0 d5, .int .i64 (-1), .bool false] 25)) F A5 c5 d.secs) := ⟨_, DV.new hK5, (hs5.mono (fun k hk hl => ⟨hk, hl⟩)).below (below_box (Below.refl _ _) _)⟩
      have hx5 := below_box hb5 (.cells #[.slice A5 n0 c5, .slice B5 0 d5, .int .i64 (-1), .bool false] 25)
      have D3 := Lib.hid (D2.out.below hx5)
      have HB5 := Lib.hid (below_then HB2.out hx5)
      clear hK5 hb5 hx5 f D2 hs5 HB2
      have f := D5.out.facts
      go_wp2_with fail
      refine (restart_as (d := restartD d) (d' := restartD d) rfl D5.out.k).mono ?_
      rintro e w6 ⟨cs6, rfl, hK6, hb6⟩
      obtain ⟨A6, n6, c6, B6, m6, d6, l6, s6, rfl, hK6⟩ := kDsk_shape hK6
      obtain ⟨F6, D6⟩ : ∃ F, Hid (DV (w6.alloc (.cells #[.slice A6 n6 c6, .slice B6 m6 d6, .int .i64 l6, .bool s6] 25)) F w6.heap.size (restartD d) A6 n6 c6 B6 m6 d6 l6 s6) := ⟨_, DV.new hK6⟩
      have hx6 := below_box hb6 (.cells #[.slice A6 n6 c6, .slice B6 m6 d6, .int .i64 l6, .bool s6] 25)
      have D3a := Lib.hid (D3.out.below hx6)
      have D5a := Lib.hid (D5.out.below hx6)
      have HS5a := Lib.hid (HS5.out.below hx6)
      have HB6 := Lib.hid (below_then HB5.out hx6)
      clear hK6 hb6 hx6 f D3 D5 HB5 HS5
      have f := D5a.out.facts
      have g := D6.out.facts
      go_wp2_with fail
      refine (dsame_as D5a.out.k D6.out.k).mono ?_
      rintro e w7 ⟨rfl, hb7⟩
      have D3b := Lib.hid (D3a.out.below hb7)
      have D5b := Lib.hid (D5a.out.below hb7)
      have HS5b := Lib.hid (HS5a.out.below hb7)
      have HB7 := Lib.hid (below_then HB6.out hb7)
      clear f g hb7 D3a D5a D6 HB6 HS5a
      have f := D5b.out.facts
      have g := D3b.out.facts
      go_wp2_with fail
      generalize w5.heap.size = g5 at *
      go_loopw [11] (fun i' wr => ∃ i : Nat, i' = .int .i64 i ∧ i ≤ n0 ∧ Hid (Below w7.heap.size w7 wr)) (fun i' _ => n0 - (intOf i').toNat)
      case atStart => exact ⟨0, rfl, Nat.zero_le _, Below.refl _ _⟩
      case round =>
        obtain ⟨i, rfl, hi, hbr⟩ := hrel
        clear f g
        have D3c := Lib.hid (D3b.out.below hbr.out)
        have D5c := Lib.hid (D5b.out.below hbr.out)
        have f := D5c.out.facts
        have g := D3c.out.facts
        by_cases hin : i < n0
        · have hin' : i < d.secs.length := by rw [← EN0.out]; exact hin
          obtain ⟨ad0, X0, k0, rfl, q0, hs0⟩ := SL.sl_at (HS0.out.below (below_then HB7.out hbr.out)) hin'
          obtain ⟨ad5, X5, k5, rfl, q5, hs5⟩ := SL.sl_at (HS5b.out.below hbr.out) hin'
          obtain ⟨mi, hmi⟩ : ∃ m, d.secs[i].length = m := ⟨_, rfl⟩
          rw [hmi] at q0 q5
          have HQ0 := Lib.hid q0
          have HQ5 := Lib.hid q5
          have HX0 := Lib.hid hs0
          have HX5 := Lib.hid hs5
          have HMI := Lib.hid hmi
          clear q0 q5 hs0 hs5 hmi
          have hlo : (0 : Int) ≤ (i : Int) := by omega
          have hhi : (i : Int) < (n0 : Int) := by omega
          have KEEP0 : Hid (∀ w', Below wr.heap.size wr w' → (fun w' => Below wr.heap.size wr w' ∧ ((w'.cell? ⟨g5, 0, none⟩ = some (.slice (some ad5) n0 c5) ∧ w'.cell? ⟨g5, 1, none⟩ = some (.slice B5 0 d5) ∧ w'.cell? ⟨g5, 2, none⟩ = some (.int .i64 (-1)) ∧ w'.cell? ⟨g5, 3, none⟩ = some (.bool false))) ∧ ((w'.cell? ⟨w.heap.size, 0, none⟩ = some (.slice (some ad0) n0 c0) ∧ w'.cell? ⟨w.heap.size, 1, none⟩ = some (.slice B0 m0 d0) ∧ w'.cell? ⟨w.heap.size, 2, none⟩ = some (.int .i64 l0) ∧ w'.cell? ⟨w.heap.size, 3, none⟩ = some (.bool s0))) ∧ w'.cell? (ad5.add i) = some (.slice X5 mi k5) ∧ w'.cell? (ad0.add i) = some (.slice X0 mi k0) ∧ (convert 35 9 (.slice X5 mi k5)).run Try.prog w' = .ok (.string ⟨d.secs[i].toArray⟩) w' ∧ (convert 35 9 (.slice X0 mi k0)).run Try.prog w' = .ok (.string ⟨d.secs[i].toArray⟩) w') w') := fun w' hb => ⟨hb, (D5c.out.below hb).facts, (D3c.out.below hb).facts, keepcell hb HQ5.out, keepcell hb HQ0.out, SL.str (HX5.out.below hb) HMI.out.symm, SL.str (HX0.out.below hb) HMI.out.symm⟩
          have KEEP1 := Lib.hid (KEEP0.out _ (below_drew (Below.refl _ _)))
          go_wp2_with fail
          go_region_held3 (fun w' => Below wr.heap.size wr w' ∧ ((w'.cell? ⟨g5, 0, none⟩ = some (.slice (some ad5) n0 c5) ∧ w'.cell? ⟨g5, 1, none⟩ = some (.slice B5 0 d5) ∧ w'.cell? ⟨g5, 2, none⟩ = some (.int .i64 (-1)) ∧ w'.cell? ⟨g5, 3, none⟩ = some (.bool false))) ∧ ((w'.cell? ⟨w.heap.size, 0, none⟩ = some (.slice (some ad0) n0 c0) ∧ w'.cell? ⟨w.heap.size, 1, none⟩ = some (.slice B0 m0 d0) ∧ w'.cell? ⟨w.heap.size, 2, none⟩ = some (.int .i64 l0) ∧ w'.cell? ⟨w.heap.size, 3, none⟩ = some (.bool s0))) ∧ w'.cell? (ad5.add i) = some (.slice X5 mi k5) ∧ w'.cell? (ad0.add i) = some (.slice X0 mi k0) ∧ (convert 35 9 (.slice X5 mi k5)).run Try.prog w' = .ok (.string ⟨d.secs[i].toArray⟩) w' ∧ (convert 35 9 (.slice X0 mi k0)).run Try.prog w' = .ok (.string ⟨d.secs[i].toArray⟩) w') (first | exact KEEP1.out | assumption) (fail)
          have hbx : Below wr.heap.size wr _ := And.left (by assumption)
          go_wp2
          go_roundw
          case rel => exact ⟨i + 1, by go_num, by omega, below_then hbr.out hbx⟩
          case measure => simp [intOf]; omega
        · obtain rfl : i = n0 := by omega
          obtain ⟨z5, z6, z7, z8⟩ := D3c.out.frozen
          have hb8 := Lib.hid (below_then HB7.out hbr.out)
          have HB8 : Hid (Below w.heap.size w (wr.setCell ⟨w.heap.size, 3, none⟩ (.bool true))) := hb8.out.setCell (Nat.le_refl _) _
          have hnF : ¬ Old w w.heap.size := fun h => Nat.lt_irrefl _ h
          have D8 : Hid (DV (wr.setCell ⟨w.heap.size, 3, none⟩ (.bool true)) (Old w) w.heap.size (stopped d) A0 i c0 B0 m0 d0 l0 true) :=
            ⟨D3c.out.b.set 3 (.bool true), kDsk_is (d := stopped d) (sl_set (HS0.out.below hb8.out) hnF _) (sl_set (HP0.out.below hb8.out) hnF _) HL0.out EN0.out EM0.out EL0.out rfl⟩
          have HE := Lib.hid (stopped_e d p l b)
          go_upto_region 15 with fail
          generalize wr.setCell ⟨w.heap.size, 3, none⟩ (.bool true) = w8 at D8 HB8 ⊢
          clear f g z5 z6 z7 z8 D3c D5c D3b D5b hbr hb8 HB7 HS5b
          have f := D8.out.facts
          go_wp2_with fail
          refine (read_is (m := 0) HE.out.2.1 HE.out.1 rfl D8.out.k HP.out).mono ?_
          rintro e w9 ⟨A9, c9, rfl, _, hb9⟩
          have D9 := Lib.hid (D8.out.below hb9)
          have HB9 := Lib.hid (below_then HB8.out hb9)
          clear f hb9 D8 HB8
          have f := D9.out.facts
          go_wp2_with fail
          refine (write_as rfl HE.out.2.2.1 HNB.out D9.out.k HP.out (HBS.out.old HB9.out)).mono ?_
          rintro e w10 ⟨cs10, rfl, hK10, hb10⟩
          obtain ⟨A10, n10, c10, B10, m10, d10, l10, s10, rfl, hK10⟩ := kDsk_shape hK10
          have hx10 := below_box hb10 (.cells #[.slice A10 n10 c10, .slice B10 m10 d10, .int .i64 l10, .bool s10] 25)
          have D10 := Lib.hid (D9.out.below hx10)
          have HB10 := Lib.hid (below_then HB9.out hx10)
          clear hK10 f hb10 hx10 D9 HB9
          have f := D10.out.facts
          go_wp2_with fail
          refine (sync_as rfl HE.out.2.2.2.1 D10.out.k).mono ?_
          rintro e w11 ⟨cs11, rfl, hK11, hb11⟩
          obtain ⟨A11, n11, c11, B11, m11, d11, l11, s11, rfl, hK11⟩ := kDsk_shape hK11
          have hx11 := below_box hb11 (.cells #[.slice A11 n11 c11, .slice B11 m11 d11, .int .i64 l11, .bool s11] 25)
          have D11 := Lib.hid (D10.out.below hx11)
          have HB11 := Lib.hid (below_then HB10.out hx11)
          clear hK11 f hb11 hx11 D10 HB10
          have f := D11.out.facts
          go_wp2_with fail
          refine (stop_as rfl HE.out.2.2.2.2 D11.out.k HL.out).mono ?_
          rintro e w12 ⟨cs12, rfl, hK12, hb12⟩
          obtain ⟨A12, n12, c12, B12, m12, d12, l12, s12, rfl, hK12⟩ := kDsk_shape hK12
          have HB12 := Lib.hid (below_box (below_then HB11.out hb12) (.cells #[.slice A12 n12 c12, .slice B12 m12 d12, .int .i64 l12, .bool s12] 25))
          clear hK12 f hb12 D11 HB11
          go_wp2
          go_ret
          exact Says.of rfl HB12.out
end Go.Proofs.Ytmcdimcjmafaoaa.B
