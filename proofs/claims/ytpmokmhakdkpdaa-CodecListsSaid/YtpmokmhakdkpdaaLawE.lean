import Derived.Test.YtpmokmhakdkpdaaLawD
namespace Go.Proofs.Ytpmokmhakdkpdaa.B
open Go.RowKit

theorem decode_some {b : List UInt8} {x : Val} (h : decodeM b = some x) {w : World} {F : Foot} {A : Option Addr} {c m : Nat} (hs : SL kU8 w F A c b) (hm : b.length = m) (hl : m ≤ 1000000000) :
    Calls Try.prog 18 #[.slice A m c] w fun e w' => ∃ A' c' F', e = .returned (.tuple #[.agg #[.int .i64 x.kind, .int .i64 x.n, .string x.s, .slice A' x.l.length c'], .int .i64 0]) ∧ kVal.K w' F' x [.int .i64 x.kind, .int .i64 x.n, .string x.s, .slice A' x.l.length c'] ∧ Below w.heap.size w w' := by
  subst hm
  refine (decode_calls hs hl).mono ?_
  rintro e w1 ⟨cs, F', rfl, hK, _, hb⟩
  have e1 : decodeV b = x := by unfold decodeV; rw [h]; rfl
  have e2 : decodeE b = 0 := by unfold decodeE; rw [h]; rfl
  rw [e1] at hK
  rw [e2]
  obtain ⟨A', c', rfl, _⟩ := kVal_open hK
  exact ⟨A', c', F', rfl, hK, hb⟩
theorem decode_no {b : List UInt8} (h : decodeM b = none) {w : World} {F : Foot} {A : Option Addr} {c m : Nat} (hs : SL kU8 w F A c b) (hm : b.length = m) (hl : m ≤ 1000000000) :
    Calls Try.prog 18 #[.slice A m c] w fun e w' => ∃ A' c' F', e = .returned (.tuple #[.agg #[.int .i64 0, .int .i64 0, .string ⟨#[]⟩, .slice A' 0 c'], .int .i64 10]) ∧ kVal.K w' F' ⟨0, 0, empty, []⟩ [.int .i64 0, .int .i64 0, .string ⟨#[]⟩, .slice A' 0 c'] ∧ Below w.heap.size w w' := by
  subst hm
  refine (decode_calls hs hl).mono ?_
  rintro e w1 ⟨cs, F', rfl, hK, _, hb⟩
  have e1 : decodeV b = ⟨0, 0, empty, []⟩ := by unfold decodeV; rw [h]; rfl
  have e2 : decodeE b = 10 := by unfold decodeE; rw [h]; rfl
  rw [e1] at hK
  rw [e2]
  obtain ⟨A', c', rfl, _⟩ := kVal_open hK
  exact ⟨A', c', F', rfl, hK, hb⟩
theorem check_as {v : Val} {z : Int} (hz : checkM v = z) (hd : v.depth < 1000000000) {w : World} {F : Foot} {cs : List Value} (h : kVal.K w F v cs) :
    Calls Try.prog 16 #[.agg cs.toArray] w (Gives (.int .i64 z) w) := by subst hz; exact check_calls hd h

set_option maxRecDepth 100000 in
set_option maxHeartbeats 4000000 in
/-- CodecRoundTrip answers true. -/
theorem roundTrip_calls {v : Val} {raw : List UInt8} {w : World} {F F' : Foot} {cs : List Value} {R : Option Addr} {cr : Nat} (hv : kVal.K w F v cs) (hr : SL kU8 w F' R cr raw) :
    Calls Try.prog 6 #[.agg cs.toArray, .slice R raw.length cr] w (Gives (.bool true) w) := by
  have Hv := Lib.hid hv
  have Hr := Lib.hid hr
  obtain ⟨r, hrl⟩ : ∃ r, raw.length = r := ⟨_, rfl⟩
  have hrle := hr.le
  have hrmx := hr.max
  unfold maxLen at hrmx
  rw [hrl] at hrle ⊢
  have HRL := Lib.hid hrl
  obtain ⟨A, c, rfl, _, _, _, _⟩ := kVal_open hv
  clear hv hr hrl
  have HoV := Lib.hid (ok_of_K v _ Hv.out)
  have HV := Lib.hid (VC.new w v.kind v.n v.s (.slice A v.l.length c))
  go_enter Try.func6, Try.ntmps6
  go_wp2_with fail
  refine sane_calls.mono ?_
  rintro e w1 ⟨rfl, hb1⟩
  obtain ⟨⟨f1, f2, f3, f4⟩, _⟩ := (HV.out.below hb1).facts
  have HB1 : Below w.heap.size w w1 := below_then (by (with_reducible repeat (first | exact Below.refl _ _ | assumption | refine below_drew ?_ | refine below_drewN ?_ _ | refine below_box ?_ _))) hb1
  go_wp2_with fail
  refine (few1_calls (Kd.below Hv.out HB1)).mono ?_
  rintro e w2 ⟨q, rfl, hsm, hb2⟩
  cases q
  · go_wp2
    go_ret
    exact ⟨rfl, below_then HB1 hb2⟩
  have HS := Lib.hid (hsm rfl)
  have HV2 := Lib.hid (VC.below (VC.below HV.out hb1) hb2)
  have HB2 : Below w.heap.size w w2 := below_then HB1 hb2
  clear f1 f2 f3 f4 hsm HB1 hb1 hb2 HV
  by_cases hr2 : 2000 < r
  · go_wp2
    go_ret
    exact ⟨rfl, HB2⟩
  obtain ⟨⟨f1, f2, f3, f4⟩, _⟩ := HV2.out.facts
  obtain ⟨z, hz⟩ : ∃ z, checkM v = z := ⟨_, rfl⟩
  obtain ⟨m, hm⟩ : ∃ m, (encodeM v).length = m := ⟨_, rfl⟩
  have hcz := checkM_cases v
  rw [hz] at hcz
  have HZ := Lib.hid hz
  have Hm := Lib.hid hm
  have HCZ := Lib.hid hcz
  clear hz hm hcz
  have hmle : m ≤ 1000000000 := by have := small_len HoV.out HS.out; rw [Hm.out] at this; omega
  go_wp2_with fail
  refine (encode_as HZ.out Hm.out HS.out HoV.out (Kd.below Hv.out HB2)).mono ?_
  rintro e w3 ⟨A3, c3, rfl, hsl3, hb3⟩
  have Hsl3 := Lib.hid hsl3
  clear f1 f2 f3 f4 hsl3
  obtain ⟨⟨f1, f2, f3, f4⟩, _⟩ := (HV2.out.below hb3).facts
  go_wp2_with fail
  refine (check_as HZ.out HS.out.depth (Kd.below Hv.out (below_then HB2 hb3))).mono ?_
  rintro e w4 ⟨rfl, hb4⟩
  have HB34 : Below w2.heap.size w2 w4 := below_then hb3 hb4
  have HB4 : Below w.heap.size w w4 := below_then HB2 HB34
  clear f1 f2 f3 f4
  rcases HCZ.out with hz | hz | hz
  case' inl =>
    have HZ0 : Hid (checkM v = 0) := by show checkM v = 0; rw [HZ.out, hz]
    subst hz
    have hd := decodeM_enc HZ0.out HoV.out
    have Hd := Lib.hid hd
    clear hd
    go_wp2_with fail
    refine (decode_some Hd.out (Hsl3.out.below hb4) Hm.out hmle).mono ?_
    rintro e w5 ⟨A5, c5, F5, rfl, hK5, hb5⟩
    have HK5 := Lib.hid hK5
    clear hK5
    obtain ⟨⟨f1, f2, f3, f4⟩, _⟩ := (HV2.out.below (below_then HB34 (below_then hb5 (below_box (Below.refl _ _) (.cells #[.int .i64 v.kind, .int .i64 v.n, .string v.s, .slice A5 v.l.length c5] 24))))).facts
    go_wp2_with fail
    refine (same_as (sameM_eq rfl) (Kd.below Hv.out (below_then HB4 (below_box hb5 _))) (Kd.below HK5.out (below_box (Below.refl _ _) _))).mono ?_
    rintro e w6 ⟨rfl, hb6⟩
    have HB56 : Below w4.heap.size w4 w6 := below_then (below_box hb5 _) hb6
    clear f1 f2 f3 f4
    obtain ⟨⟨f1, f2, f3, f4⟩, _⟩ := (HV2.out.below (below_then HB34 HB56)).facts
    obtain ⟨⟨g1, g2, g3, g4⟩, _⟩ := ((VC.new w5 v.kind v.n v.s (.slice A5 v.l.length c5)).below hb6).facts
    go_wp2_with fail
    refine (rsame_as (sameM_eq rfl) (Kd.below Hv.out (below_then HB4 HB56)) (Kd.below HK5.out (below_then (below_box (Below.refl _ _) _) hb6))).mono ?_
    rintro e w7 ⟨rfl, hb7⟩
    have HBW : Below w.heap.size w w7 := below_then HB4 (below_then HB56 hb7)
    clear f1 f2 f3 f4 g1 g2 g3 g4 HB56 hb5 hb6 hb7 hb3 hb4 HB34 HB4 HZ0
    go_wp2_with fail
    have HX := Lib.hid HBW
    clear HBW HV2 Hd HK5 Hsl3
  case' inr.inl =>
    subst hz
    go_wp2_with fail
    have HX := Lib.hid HB4
    clear HB4 HB34 hb3 hb4 HV2 Hsl3
  case' inr.inr =>
    subst hz
    go_wp2_with fail
    have HX := Lib.hid HB4
    clear HB4 HB34 hb3 hb4 HV2 Hsl3
  all_goals
    cases hd : decodeM raw with
    | none =>
      refine (decode_no hd (Hr.out.below HX.out) HRL.out (by omega)).mono ?_
      clear hd
      rintro e w8 ⟨A8, c8, F8, rfl, hK8, hb8⟩
      have HK8 := Lib.hid hK8
      clear hK8
      obtain ⟨⟨f1, f2, f3, f4⟩, _⟩ := (VC.new w8 0 0 ⟨#[]⟩ (.slice A8 0 c8)).facts
      go_wp2_with fail
      refine (same_as (sameM_eq rfl) (Kd.below HK8.out (below_box (Below.refl _ _) _)) (kZ _ (fun _ => False))).mono ?_
      rintro e w9 ⟨rfl, hb9⟩
      go_wp2
      go_ret
      exact ⟨rfl, below_then (below_box (below_then HX.out hb8) _) hb9⟩
    | some x =>
      refine (decode_some hd (Hr.out.below HX.out) HRL.out (by omega)).mono ?_
      obtain ⟨hcx, hex⟩ := decodeM_inv hd
      have HCX := Lib.hid hcx
      have HEX := Lib.hid hex
      clear hd hcx hex
      rintro e w8 ⟨A8, c8, F8, rfl, hK8, hb8⟩
      have HK8 := Lib.hid hK8
      clear hK8
      have HV8 := Lib.hid (VC.new w8 x.kind x.n x.s (.slice A8 x.l.length c8))
      obtain ⟨⟨f1, f2, f3, f4⟩, _⟩ := HV8.out.facts
      have HDX : Hid (x.depth < 1000000000) := by have := (checkM_ok HCX.out).2; show x.depth < 1000000000; omega
      go_wp2_with fail
      refine (encode_calls HDX.out (by rw [HEX.out, HRL.out]; omega) (Kd.below HK8.out (below_box (Below.refl _ _) _))).mono ?_
      rw [HCX.out, HEX.out]
      rintro e w9 ⟨v9, rfl, hown9, hb9⟩
      obtain ⟨A9, c9, hv9, hsl9⟩ := hown9.sl_all
      rw [HRL.out] at hv9
      subst hv9
      have hc9 := SL.str hsl9 (m := r) HRL.out.symm
      have hcr := SL.str (Hr.out.below (below_then HX.out (below_then (below_box hb8 _) hb9))) (m := r) HRL.out.symm
      clear f1 f2 f3 f4 hown9 hsl9
      obtain ⟨⟨f1, f2, f3, f4⟩, _⟩ := (HV8.out.below hb9).facts
      go_wp2_with fail
      refine (check_as HCX.out HDX.out (Kd.below HK8.out (below_then (below_box (Below.refl _ _) _) hb9))).mono ?_
      rintro e w10 ⟨rfl, hb10⟩
      go_wp2
      go_ret
      exact ⟨by simp, below_then (below_then (below_box (below_then HX.out hb8) _) hb9) hb10⟩
end Go.Proofs.Ytpmokmhakdkpdaa.B
