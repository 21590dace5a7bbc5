import Derived.Test.YtpmokmhakdkpdaaFormed
namespace Go.Proofs.Ytpmokmhakdkpdaa.B
open Go.RowKit
/-- codec.Check's answer. -/
def checkM (v : Val) : Int := if v.formed then (if 16 < v.depth then 2 else 0) else 1
theorem checkM_ok {v : Val} (h : checkM v = 0) : v.formed = true ∧ v.depth ≤ 16 := by
  unfold checkM at h
  split at h
  · rename_i hf
    split at h
    · cases h
    · exact ⟨hf, by omega⟩
  · cases h
set_option maxHeartbeats 1000000 in
theorem check_calls {v : Val} {w : World} {F : Foot} {cs : List Value} (hd : v.depth < 1000000000) (h : kVal.K w F v cs) :
    Calls Try.prog 16 #[.agg cs.toArray] w fun e w' => e = .returned (.int .i64 (checkM v)) ∧ Below w.heap.size w w' := by
  have H := Lib.hid h
  obtain ⟨A, c, rfl, _, _, _, _⟩ := kVal_open h
  clear h
  have Hd := Lib.hid hd
  clear hd
  cases hf : v.formed
  · have hm : Hid (checkM v = 1) := by show checkM v = 1; unfold checkM; rw [hf]; rfl
    go_enter Try.func16, Try.ntmps16
    go_wp2_with (go_at_call 28; refine (formed_calls v _ F _ Hd.out (Kd.below H.out (by (with_reducible repeat (first | exact Below.refl _ _ | assumption | refine below_drew ?_ | refine below_drewN ?_ _ | refine below_box ?_ _))))).mono ?_; unfold formedR; rintro e w1 ⟨rfl, hb⟩)
    go_ret
    exact ⟨ret_int hm.out.symm, below_then (by (with_reducible repeat (first | exact Below.refl _ _ | assumption | refine below_drew ?_ | refine below_drewN ?_ _ | refine below_box ?_ _))) hb⟩
  · by_cases hdp : 16 < v.depth
    · have hm : Hid (checkM v = 2) := by show checkM v = 2; unfold checkM; rw [hf, if_pos rfl, if_pos hdp]
      go_enter Try.func16, Try.ntmps16
      go_wp2_with (go_at_call 28; refine (formed_calls v _ F _ Hd.out (Kd.below H.out (by (with_reducible repeat (first | exact Below.refl _ _ | assumption | refine below_drew ?_ | refine below_drewN ?_ _ | refine below_box ?_ _))))).mono ?_; unfold formedR; rintro e w1 ⟨rfl, hb⟩)
      go_ret
      exact ⟨ret_int hm.out.symm, below_then (by (with_reducible repeat (first | exact Below.refl _ _ | assumption | refine below_drew ?_ | refine below_drewN ?_ _ | refine below_box ?_ _))) hb⟩
    · have hm : Hid (checkM v = 0) := by show checkM v = 0; unfold checkM; rw [hf, if_pos rfl, if_neg hdp]
      go_enter Try.func16, Try.ntmps16
      go_wp2_with (go_at_call 28; refine (formed_calls v _ F _ Hd.out (Kd.below H.out (by (with_reducible repeat (first | exact Below.refl _ _ | assumption | refine below_drew ?_ | refine below_drewN ?_ _ | refine below_box ?_ _))))).mono ?_; unfold formedR; rintro e w1 ⟨rfl, hb⟩)
      go_ret
      exact ⟨ret_int hm.out.symm, below_then (by (with_reducible repeat (first | exact Below.refl _ _ | assumption | refine below_drew ?_ | refine below_drewN ?_ _ | refine below_box ?_ _))) hb⟩
end Go.Proofs.Ytpmokmhakdkpdaa.B
