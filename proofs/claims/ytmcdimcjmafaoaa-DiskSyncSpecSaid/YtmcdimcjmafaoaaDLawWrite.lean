/- DiskWriteSpec answers true. -/
import Derived.Test.YtmcdimcjmafaoaaDLawNew
namespace Go.Proofs.Ytmcdimcjmafaoaa.B
set_option linter.unusedVariables false
set_option linter.unusedSimpArgs false
open Go.RowKit

section
variable {d d' : Dsk} {z p n : Int} {m k : Nat} {b xs : List UInt8} {w : World} {F : Foot} {cs : List Value} {Ab : Option Addr} {cb : Nat}
theorem rwrite_as (hd : writeD d p b = d') (hz : writeE d p b = z) (hm : b.length = m) (h : kDsk.K w F d cs) (hp : I64 p) (hb : SL kU8 w (Old w) Ab cb b) : Calls Try.prog 20 #[.agg cs.toArray, .int .i64 p, .slice Ab m cb] w (DskE d' z w) := by subst hd; subst hz; subst hm; exact rwrite_calls (Kd.any h) hp hb
theorem read_is (hx : readD d p = xs) (hz : readE d p = z) (hm : xs.length = m) (h : kDsk.K w F d cs) (hp : I64 p) : Calls Try.prog 21 #[.agg cs.toArray, .int .i64 p] w (ReadN F xs m z w) := by subst hx; subst hz; subst hm; exact read_calls h hp
theorem rread_is (hx : readD d p = xs) (hz : readE d p = z) (hm : xs.length = m) (h : kDsk.K w F d cs) (hp : I64 p) : Calls Try.prog 22 #[.agg cs.toArray, .int .i64 p] w (ReadN (Old w) xs m z w) := by subst hx; subst hz; subst hm; exact rread_calls (Kd.any h) hp
end
set_option maxRecDepth 100000 in
set_option maxHeartbeats 4000000 in
theorem writeSpec_calls {d : Dsk} {p : Int} {b : List UInt8} {w : World} {cs : List Value} {Ab : Option Addr} {cb : Nat} (hK0 : kDsk.K w (Old w) d cs) (hp : I64 p) (hb : SL kU8 w (Old w) Ab cb b) :
    Calls Try.prog 4 #[.agg cs.toArray, .int .i64 p, .slice Ab b.length cb] w (Says (.bool true) w) := by
  obtain ⟨A0, n0, c0, B0, m0, d0, l0, s0, rfl, hK0⟩ := kDsk_shape hK0
  have HP := Lib.hid hp
  obtain ⟨nlo, nhi⟩ := hp
  have HBS := Lib.hid hb
  obtain ⟨nb, hnb⟩ : ∃ nb, b.length = nb := ⟨_, rfl⟩
  have hbl := Nat.le_trans hb.le hb.max
  unfold maxLen at hbl
  rw [hnb] at hbl ⊢
  have HNB := Lib.hid hnb
  obtain ⟨F0, D0⟩ : ∃ F, Hid (DV (w.alloc (.cells #[.slice A0 n0 c0, .slice B0 m0 d0, .int .i64 l0, .bool s0] 25)) F w.heap.size d A0 n0 c0 B0 m0 d0 l0 s0) := ⟨_, DV.new hK0⟩
  have HB0 := Lib.hid (below_box (Below.refl w.heap.size w) (.cells #[.slice A0 n0 c0, .slice B0 m0 d0, .int .i64 l0, .bool s0] 25))
  clear hK0 hb hnb
  go_enter Try.func4, Try.ntmps4
  go_wp2_with fail
  refine sane47_calls.mono ?_
  rintro e w1 ⟨rfl, hb1⟩
  have D1 := Lib.hid (D0.out.below hb1)
  have HB1 := Lib.hid (below_then HB0.out hb1)
  clear hb1 D0 HB0
  have f := D1.out.facts
  go_wp2_with fail
  refine (dfew_calls D1.out.k).mono ?_
  rintro e w2 ⟨q, rfl, hb2⟩
  have D2 := Lib.hid (D1.out.below hb2)
  have HB2 := Lib.hid (below_then HB1.out hb2)
  clear hb2 f D1 HB1
  cases q
  · go_wp2
    go_ret
    exact Says.of rfl HB2.out
  · by_cases hbig : 1000 < nb
    · go_wp2
      go_ret
      exact Says.of rfl HB2.out
    · obtain ⟨dn, hdn⟩ : ∃ x, writeD d p b = x := ⟨_, rfl⟩
      obtain ⟨zn, hzn⟩ : ∃ x, writeE d p b = x := ⟨_, rfl⟩
      obtain ⟨xs, hxs⟩ : ∃ x, readD d p = x := ⟨_, rfl⟩
      obtain ⟨zr, hzr⟩ : ∃ x, readE d p = x := ⟨_, rfl⟩
      obtain ⟨mx, hmx⟩ : ∃ x, xs.length = x := ⟨_, rfl⟩
      have HDN := Lib.hid hdn
      have HZN := Lib.hid hzn
      have HXS := Lib.hid hxs
      have HZR := Lib.hid hzr
      have HMX := Lib.hid hmx
      clear hdn hzn hxs hzr hmx
      have f := D2.out.facts
      go_wp2_with fail
      refine (write_as HDN.out HZN.out HNB.out D2.out.k HP.out (HBS.out.old HB2.out)).mono ?_
      rintro e w5 ⟨cs5, rfl, hK5, hb5⟩
      obtain ⟨A5, n5, c5, B5, m5, d5, l5, s5, rfl, hK5⟩ := kDsk_shape hK5
      obtain ⟨F5, D5⟩ : ∃ F, Hid (DV (w5.alloc (.cells #[.slice A5 n5 c5, .slice B5 m5 d5, .int .i64 l5, .bool s5] 25)) F w5.heap.size dn A5 n5 c5 B5 m5 d5 l5 s5) := ⟨_, DV.new hK5⟩
      have hx5 := below_box hb5 (.cells #[.slice A5 n5 c5, .slice B5 m5 d5, .int .i64 l5, .bool s5] 25)
      have D3 := Lib.hid (D2.out.below hx5)
      have HB5 := Lib.hid (below_then HB2.out hx5)
      clear hK5 hb5 hx5 f D2
      have f := D3.out.facts
      go_wp2_with fail
      refine (rwrite_as HDN.out HZN.out HNB.out D3.out.k HP.out (HBS.out.old HB5.out)).mono ?_
      rintro e w6 ⟨cs6, rfl, hK6, hb6⟩
      obtain ⟨A6, n6, c6, B6, m6, d6, l6, s6, rfl, hK6⟩ := kDsk_shape hK6
      obtain ⟨F6, D6⟩ : ∃ F, Hid (DV (w6.alloc (.cells #[.slice A6 n6 c6, .slice B6 m6 d6, .int .i64 l6, .bool s6] 25)) F w6.heap.size dn A6 n6 c6 B6 m6 d6 l6 s6) := ⟨_, DV.new hK6⟩
      have hx6 := below_box hb6 (.cells #[.slice A6 n6 c6, .slice B6 m6 d6, .int .i64 l6, .bool s6] 25)
      have D4 := Lib.hid (D3.out.below hx6)
      have D5a := Lib.hid (D5.out.below hx6)
      have HB6 := Lib.hid (below_then HB5.out hx6)
      clear hK6 hb6 hx6 f D3 D5 HB5
      have f := D4.out.facts
      go_wp2_with fail
      refine (read_is HXS.out HZR.out HMX.out D4.out.k HP.out).mono ?_
      rintro e w7 ⟨A7, c7, rfl, hs7, hb7⟩
      have HS7 := Lib.hid hs7
      have D4a := Lib.hid (D4.out.below hb7)
      have D5b := Lib.hid (D5a.out.below hb7)
      have D6a := Lib.hid (D6.out.below hb7)
      have HB7 := Lib.hid (below_then HB6.out hb7)
      clear hs7 hb7 f D4 D5a D6 HB6
      have f := D4a.out.facts
      go_wp2_with fail
      refine (rread_is HXS.out HZR.out HMX.out D4a.out.k HP.out).mono ?_
      rintro e w8 ⟨A8, c8, rfl, hs8, hb8⟩
      have HS8 := Lib.hid hs8
      have HS7a := Lib.hid (HS7.out.below hb8)
      have D5c := Lib.hid (D5b.out.below hb8)
      have D6b := Lib.hid (D6a.out.below hb8)
      have HB8 := Lib.hid (below_then HB7.out hb8)
      clear hs8 hb8 f D4a D5b D6a HB7 HS7
      have f := D5c.out.facts
      have g := D6b.out.facts
      go_wp2_with fail
      refine (dsame_as D5c.out.k D6b.out.k).mono ?_
      rintro e w9 ⟨rfl, hb9⟩
      have u1 := SL.str (HS7a.out.below hb9) (m := mx) HMX.out.symm
      have u2 := SL.str (HS8.out.below hb9) (m := mx) HMX.out.symm
      have HB9 := Lib.hid (below_then HB8.out hb9)
      clear f g hb9 HB8
      go_wp2
      go_ret
      exact Says.of rfl HB9.out
end Go.Proofs.Ytmcdimcjmafaoaa.B
