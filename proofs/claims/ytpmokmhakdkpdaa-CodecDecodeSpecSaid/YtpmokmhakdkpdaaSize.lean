import Derived.Test.YtpmokmhakdkpdaaEncode
namespace Go.Proofs.Ytpmokmhakdkpdaa.B
open Go.RowKit
set_option maxHeartbeats 1000000 in
theorem size_calls {v : Val} {w : World} {F : Foot} {cs : List Value} (hd : v.depth < 1000000000) (hl : (encodeM v).length ≤ 70368744177600) (h : kVal.K w F v cs) :
    Calls Try.prog 14 #[.agg cs.toArray] w fun e w' => e = .returned (.tuple #[.int .i64 ((encodeM v).length : Nat), .int .i64 (checkM v)]) ∧ Below w.heap.size w w' := by
  have H := Lib.hid h
  obtain ⟨A, c, rfl, _, _, _, _⟩ := kVal_open h
  clear h
  have Hd := Lib.hid hd
  have HL := Lib.hid hl
  clear hd hl
  go_enter Try.func14, Try.ntmps14
  go_wp2_with (go_at_call 12; refine (encode_calls (F := F) Hd.out HL.out (Kd.below H.out (by (with_reducible repeat (first | exact Below.refl _ _ | assumption | refine below_drew ?_ | refine below_drewN ?_ _ | refine below_box ?_ _))))).mono ?_; rintro e w1 ⟨v', rfl, hown, hb⟩; obtain ⟨A1, c1, rfl, _⟩ := hown.sl_all)
  go_ret2
  exact ⟨rfl, below_then (by (with_reducible repeat (first | exact Below.refl _ _ | assumption | refine below_drew ?_ | refine below_drewN ?_ _ | refine below_box ?_ _))) hb⟩
end Go.Proofs.Ytpmokmhakdkpdaa.B
