import Derived.Test.YtpmokmhakdkpdaaSaneB
import Derived.Test.YtpmokmhakdkpdaaSmall
import Derived.Test.YtpmokmhakdkpdaaRefD
import Derived.Deep.RegionHeld3
namespace Go.Proofs.Ytpmokmhakdkpdaa.B
open Go.RowKit

set_option maxRecDepth 100000 in
set_option maxHeartbeats 2000000 in
/-- CodecEncodeSpec answers true. -/
theorem encodeSpec_calls {v : Val} {w : World} {F : Foot} {cs : List Value} (h : kVal.K w F v cs) :
    Calls Try.prog 3 #[.agg cs.toArray] w (Gives (.bool true) w) := by
  have H := Lib.hid h
  obtain ⟨A, c, rfl, _, _, _, _⟩ := kVal_open h
  clear h
  have HO := Lib.hid (ok_of_K v _ H.out)
  have HV := Lib.hid (VC.new w v.kind v.n v.s (.slice A v.l.length c))
  go_enter Try.func3, Try.ntmps3
  go_wp2_with fail
  refine sane_calls.mono ?_
  rintro e w1 ⟨rfl, hb1⟩
  obtain ⟨⟨f1, f2, f3, f4⟩, _⟩ := (HV.out.below hb1).facts
  have HB1 : Below w.heap.size w w1 := below_then (by (with_reducible repeat (first | exact Below.refl _ _ | assumption | refine below_drew ?_ | refine below_drewN ?_ _ | refine below_box ?_ _))) hb1
  go_wp2_with fail
  refine (few1_calls (Kd.below H.out HB1)).mono ?_
  rintro e w2 ⟨b, rfl, hsm, hb2⟩
  cases b
  · go_wp2
    go_ret
    exact ⟨rfl, below_then HB1 hb2⟩
  have HS := Lib.hid (hsm rfl)
  clear hsm f1 f2 f3 f4
  have HV2 := Lib.hid (VC.below (VC.below HV.out hb1) hb2)
  have HB2 : Below w.heap.size w w2 := below_then HB1 hb2
  obtain ⟨⟨f1, f2, f3, f4⟩, _⟩ := HV2.out.facts
  clear HB1 hb1 hb2
  go_wp2_with fail
  refine (encode_calls HS.out.depth (HS.out.len HO.out) (Kd.below H.out HB2)).mono ?_
  rintro e w3 ⟨v3, rfl, hown3, hb3⟩
  obtain ⟨A3, c3, rfl, hsl3⟩ := hown3.sl_all
  clear f1 f2 f3 f4
  obtain ⟨⟨f1, f2, f3, f4⟩, _⟩ := (HV2.out.below hb3).facts
  go_wp2_with fail
  refine (rEncode_calls HS.out.depth (HS.out.len HO.out) (Kd.below H.out (below_then HB2 hb3))).mono ?_
  rintro e w4 ⟨v4, rfl, hown4, hb4⟩
  obtain ⟨A4, c4, rfl, hsl4⟩ := hown4.sl_all
  have HB34 : Below w2.heap.size w2 w4 := below_then hb3 hb4
  clear f1 f2 f3 f4 
  obtain ⟨⟨f1, f2, f3, f4⟩, _⟩ := (HV2.out.below HB34).facts
  go_wp2_with fail
  refine (size_calls HS.out.depth (HS.out.len HO.out) (Kd.below H.out (below_then HB2 HB34))).mono ?_
  rintro e w5 ⟨rfl, hb5⟩
  clear f1 f2 f3 f4 
  obtain ⟨⟨f1, f2, f3, f4⟩, _⟩ := (HV2.out.below (below_then HB34 hb5)).facts
  go_wp2_with fail
  refine (rsize_calls HS.out.depth (HS.out.len HO.out) (Kd.below H.out (below_then (below_then HB2 HB34) hb5))).mono ?_
  rintro e w6 ⟨rfl, hb6⟩
  clear f1 f2 f3 f4 
  have hV6 := (HV2.out.below (below_then (below_then HB34 hb5) hb6))
  have hc3 := hsl3.below (below_then (below_then hb4 hb5) hb6)
  have hc4 := hsl4.below (below_then hb5 hb6)
  have HB6 : Below w.heap.size w w6 := below_then (below_then (below_then HB2 HB34) hb5) hb6
  have KEEP0 : ∀ w', Below w6.heap.size w6 w' → (fun w' => Below w6.heap.size w6 w' ∧ (convert 27 9 (.slice A3 (encodeM v).length c3)).run Try.prog w' = .ok (.string ⟨(encodeM v).toArray⟩) w' ∧ (convert 27 9 (.slice A4 (encodeM v).length c4)).run Try.prog w' = .ok (.string ⟨(encodeM v).toArray⟩) w' ∧ (w'.cell? ⟨w.heap.size, 0, none⟩ = some (.int .i64 v.kind) ∧ w'.cell? ⟨w.heap.size, 1, none⟩ = some (.int .i64 v.n) ∧ w'.cell? ⟨w.heap.size, 2, none⟩ = some (.string v.s) ∧ w'.cell? ⟨w.heap.size, 3, none⟩ = some (.slice A v.l.length c))) w' := fun w' hb => ⟨hb, SL.str (hc3.below hb) rfl, SL.str (hc4.below hb) rfl, (hV6.below hb).facts.1⟩
  have KEEP := Lib.hid (fun w' w'' (h : (fun w' => Below w6.heap.size w6 w' ∧ (convert 27 9 (.slice A3 (encodeM v).length c3)).run Try.prog w' = .ok (.string ⟨(encodeM v).toArray⟩) w' ∧ (convert 27 9 (.slice A4 (encodeM v).length c4)).run Try.prog w' = .ok (.string ⟨(encodeM v).toArray⟩) w' ∧ (w'.cell? ⟨w.heap.size, 0, none⟩ = some (.int .i64 v.kind) ∧ w'.cell? ⟨w.heap.size, 1, none⟩ = some (.int .i64 v.n) ∧ w'.cell? ⟨w.heap.size, 2, none⟩ = some (.string v.s) ∧ w'.cell? ⟨w.heap.size, 3, none⟩ = some (.slice A v.l.length c))) w') (hb : Below w'.heap.size w' w'') => KEEP0 w'' (below_then h.1 hb))
  have KEEP1 := Lib.hid (KEEP0 _ (below_drew (Below.refl _ _)))
  clear hc3 hc4 KEEP0 hsl3 hsl4 hb3 hb4 hb5 hb6 HB34 HB2 HV2 HV
  go_wp2_with fail
  go_region_held3 (fun w' => Below w6.heap.size w6 w' ∧ (convert 27 9 (.slice A3 (encodeM v).length c3)).run Try.prog w' = .ok (.string ⟨(encodeM v).toArray⟩) w' ∧ (convert 27 9 (.slice A4 (encodeM v).length c4)).run Try.prog w' = .ok (.string ⟨(encodeM v).toArray⟩) w' ∧ (w'.cell? ⟨w.heap.size, 0, none⟩ = some (.int .i64 v.kind) ∧ w'.cell? ⟨w.heap.size, 1, none⟩ = some (.int .i64 v.n) ∧ w'.cell? ⟨w.heap.size, 2, none⟩ = some (.string v.s) ∧ w'.cell? ⟨w.heap.size, 3, none⟩ = some (.slice A v.l.length c))) (first | exact KEEP1.out | exact KEEP.out _ _ (by assumption) hb7 | exact KEEP.out _ _ (by assumption) hb8 | exact KEEP.out _ _ (by assumption) (Below.refl _ _)) (first
    | (go_at_call 16; refine (check_calls HS.out.depth (Kd.below H.out (below_then HB6 (And.left (by assumption))))).mono ?_; rintro e w7 ⟨rfl, hb7⟩)
    | (go_at_call 17; refine (rcheck_calls HS.out.depth (Kd.below H.out (below_then HB6 (And.left (by assumption))))).mono ?_; rintro e w8 ⟨rfl, hb8⟩))
  all_goals (go_wp2; go_ret; exact ⟨by simp, below_then HB6 (And.left (by assumption))⟩)
end Go.Proofs.Ytpmokmhakdkpdaa.B
