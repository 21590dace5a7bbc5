import Derived.Test.YtpmokmhakdkpdaaRefC
import Derived.Test.YtpmokmhakdkpdaaEncode
namespace Go.Proofs.Ytpmokmhakdkpdaa.B
open Go.RowKit

set_option maxRecDepth 100000 in
set_option maxHeartbeats 1000000 in
/-- The reference's Encode. -/
theorem rEncode_calls {v : Val} {w : World} {F : Foot} {cs : List Value} (hd : v.depth < 1000000000) (hl : (encodeM v).length ≤ 70368744177600) (h : kVal.K w F v cs) :
    Calls Try.prog 13 #[.agg cs.toArray] w fun e w' => ∃ v', e = .returned (.tuple #[v', .int .i64 (checkM v)]) ∧ OwnB w' w.heap.size v' (encodeM v) ∧ Below w.heap.size w w' := by
  have H := Lib.hid h
  obtain ⟨A, c, rfl, _, _, _, _⟩ := kVal_open h
  clear h
  have Hd := Lib.hid hd
  have HL := Lib.hid hl
  clear hd hl
  have HV := Lib.hid (VC.new w v.kind v.n v.s (.slice A v.l.length c))
  by_cases hm : checkM v = 0
  · obtain ⟨hf, _⟩ := checkM_ok hm
    have HE : Hid (encodeM v = enc v) := by show encodeM v = enc v; unfold encodeM; rw [if_pos hm]
    have HF := Lib.hid hf
    have HM := Lib.hid hm
    clear hf hm
    go_enter Try.func13, Try.ntmps13
    go_wp2_with (first | (go_at_call 17; refine (rcheck_calls Hd.out (Kd.below H.out (by (with_reducible repeat (first | exact Below.refl _ _ | assumption | refine below_drew ?_ | refine below_drewN ?_ _ | refine below_box ?_ _))))).mono ?_; rw [HM.out]; rintro e w1 ⟨rfl, hb1⟩; obtain ⟨⟨f1, f2, f3, f4⟩, _⟩ := (HV.out.below hb1).facts) | (go_at_call 27; refine (rencode_calls v HF.out (by have := HL.out; rwa [HE.out] at this) _ F _ (Kd.below H.out (below_then (by (with_reducible repeat (first | exact Below.refl _ _ | assumption | refine below_drew ?_ | refine below_drewN ?_ _ | refine below_box ?_ _))) hb1))).mono ?_; rintro e w2 ⟨v2, rfl, hown2, hb2⟩))
    go_ret2
    have hs := hb1.size
    rw [World.size_alloc] at hs
    exact ⟨v2, by rw [HM.out]; rfl, by rw [HE.out]; exact hown2.lower (by omega), below_then (below_then (by (with_reducible repeat (first | exact Below.refl _ _ | assumption | refine below_drew ?_ | refine below_drewN ?_ _ | refine below_box ?_ _))) hb1) hb2⟩
  · have hne : (checkM v == 0) = false := by simpa using hm
    have HE : Hid (encodeM v = []) := by show encodeM v = []; unfold encodeM; rw [if_neg hm]
    clear hm
    go_enter Try.func13, Try.ntmps13
    go_wp2_with (first | (go_at_call 17; refine (rcheck_calls Hd.out (Kd.below H.out (by (with_reducible repeat (first | exact Below.refl _ _ | assumption | refine below_drew ?_ | refine below_drewN ?_ _ | refine below_box ?_ _))))).mono ?_; rintro e w1 ⟨rfl, hb1⟩))
    go_ret2
    exact ⟨_, rfl, by rw [HE.out]; exact Own.nil, below_then (by (with_reducible repeat (first | exact Below.refl _ _ | assumption | refine below_drew ?_ | refine below_drewN ?_ _ | refine below_box ?_ _))) hb1⟩

set_option maxRecDepth 100000 in
set_option maxHeartbeats 1000000 in
/-- The reference's Size. -/
theorem rsize_calls {v : Val} {w : World} {F : Foot} {cs : List Value} (hd : v.depth < 1000000000) (hl : (encodeM v).length ≤ 70368744177600) (h : kVal.K w F v cs) :
    Calls Try.prog 15 #[.agg cs.toArray] w fun e w' => e = .returned (.tuple #[.int .i64 ((encodeM v).length : Nat), .int .i64 (checkM v)]) ∧ Below w.heap.size w w' := by
  have H := Lib.hid h
  obtain ⟨A, c, rfl, _, _, _, _⟩ := kVal_open h
  clear h
  have Hd := Lib.hid hd
  have HL := Lib.hid hl
  clear hd hl
  go_enter Try.func15, Try.ntmps15
  go_wp2_with (go_at_call 13; refine (rEncode_calls (F := F) Hd.out HL.out (Kd.below H.out (by (with_reducible repeat (first | exact Below.refl _ _ | assumption | refine below_drew ?_ | refine below_drewN ?_ _ | refine below_box ?_ _))))).mono ?_; rintro e w1 ⟨v', rfl, hown, hb⟩; obtain ⟨A1, c1, rfl, _⟩ := hown.sl_all)
  go_ret2
  exact ⟨rfl, below_then (by (with_reducible repeat (first | exact Below.refl _ _ | assumption | refine below_drew ?_ | refine below_drewN ?_ _ | refine below_box ?_ _))) hb⟩
end Go.Proofs.Ytpmokmhakdkpdaa.B
