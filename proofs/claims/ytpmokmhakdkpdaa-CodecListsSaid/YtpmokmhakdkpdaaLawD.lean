import Derived.Test.YtpmokmhakdkpdaaLawB
import Derived.Test.YtpmokmhakdkpdaaLawC
import Derived.Deep.RegionHeld3
namespace Go.Proofs.Ytpmokmhakdkpdaa.B
open Go.RowKit

theorem encode_as {v : Val} {z : Int} (hz : checkM v = z) {m : Nat} (hm : (encodeM v).length = m) (hs : Small v 200 21) (hok : v.ok) {w : World} {F : Foot} {cs : List Value} (h : kVal.K w F v cs) :
    Calls Try.prog 12 #[.agg cs.toArray] w fun e w' => ∃ A c, e = .returned (.tuple #[.slice A m c, .int .i64 z]) ∧ SL kU8 w' (fun k => w.heap.size ≤ k ∧ k < w'.heap.size) A c (encodeM v) ∧ Below w.heap.size w w' := by
  subst hz; subst hm
  refine (encode_calls hs.depth (hs.len hok) h).mono ?_
  rintro e w1 ⟨v', rfl, hown, hb⟩
  obtain ⟨A, c, rfl, hsl⟩ := hown.sl (F' := fun k => w.heap.size ≤ k ∧ k < w1.heap.size) (fun _ h _ => h.elim) (fun k hk => hown.lt k hk)
  exact ⟨A, c, rfl, hsl, hb⟩
set_option maxRecDepth 100000 in
set_option maxHeartbeats 4000000 in
/-- CodecDifferent answers true. -/
theorem different_calls {a b : Val} {w : World} {F F' : Foot} {cs ds : List Value} (ha : kVal.K w F a cs) (hb : kVal.K w F' b ds) :
    Calls Try.prog 7 #[.agg cs.toArray, .agg ds.toArray] w (Gives (.bool true) w) := by
  have Ha := Lib.hid ha
  have Hb := Lib.hid hb
  obtain ⟨A, c, rfl, _, _, _, _⟩ := kVal_open ha
  obtain ⟨A', c', rfl, _, _, _, _⟩ := kVal_open hb
  clear ha hb
  have HoA := Lib.hid (ok_of_K a _ Ha.out)
  have HoB := Lib.hid (ok_of_K b _ Hb.out)
  have HV := Lib.hid (vc_two w a.kind a.n b.kind b.n a.s b.s (.slice A a.l.length c) (.slice A' b.l.length c'))
  go_enter Try.func7, Try.ntmps7
  go_wp2_with fail
  refine sane_calls.mono ?_
  rintro e w1 ⟨rfl, hb1⟩
  obtain ⟨⟨f1, f2, f3, f4⟩, _⟩ := (HV.out.1.below hb1).facts
  obtain ⟨⟨g1, g2, g3, g4⟩, _⟩ := (HV.out.2.below hb1).facts
  have HB1 : Below w.heap.size w w1 := below_then (by (with_reducible repeat (first | exact Below.refl _ _ | assumption | refine below_drew ?_ | refine below_drewN ?_ _ | refine below_box ?_ _))) hb1
  go_wp2_with fail
  refine (few2_calls (Kd.below Ha.out HB1) (Kd.below Hb.out HB1)).mono ?_
  rintro e w2 ⟨q, rfl, hsm, hb2⟩
  cases q
  · go_wp2
    go_ret
    exact ⟨rfl, below_then HB1 hb2⟩
  have HS := Lib.hid (hsm rfl)
  have HV1 := Lib.hid ((HV.out.1.below hb1).below hb2)
  have HV2 := Lib.hid ((HV.out.2.below hb1).below hb2)
  have HB2 : Below w.heap.size w w2 := below_then HB1 hb2
  clear f1 f2 f3 f4 g1 g2 g3 g4 hsm HB1 hb1 hb2 HV
  obtain ⟨za, hza⟩ : ∃ z, checkM a = z := ⟨_, rfl⟩
  obtain ⟨zb, hzb⟩ : ∃ z, checkM b = z := ⟨_, rfl⟩
  obtain ⟨m, hm⟩ : ∃ m, (encodeM a).length = m := ⟨_, rfl⟩
  obtain ⟨n, hn⟩ : ∃ n, (encodeM b).length = n := ⟨_, rfl⟩
  have hca := checkM_cases a
  have hcb := checkM_cases b
  rw [hza] at hca
  rw [hzb] at hcb
  have HZA := Lib.hid hza
  have HZB := Lib.hid hzb
  have Hm := Lib.hid hm
  have Hn := Lib.hid hn
  have HCB := Lib.hid hcb
  clear hza hzb hm hn hcb
  obtain ⟨⟨f1, f2, f3, f4⟩, _⟩ := HV1.out.facts
  go_wp2_with fail
  refine (encode_as HZA.out Hm.out HS.out.1 HoA.out (Kd.below Ha.out HB2)).mono ?_
  rintro e w3 ⟨A3, c3, rfl, hsl3, hb3⟩
  have Hsl3 := Lib.hid hsl3
  clear f1 f2 f3 f4 hsl3
  obtain ⟨⟨g1, g2, g3, g4⟩, _⟩ := (HV2.out.below hb3).facts
  go_wp2_with fail
  refine (encode_as HZB.out Hn.out HS.out.2 HoB.out (Kd.below Hb.out (below_then HB2 hb3))).mono ?_
  rintro e w4 ⟨A4, c4, rfl, hsl4, hb4⟩
  have Hsl4 := Lib.hid hsl4
  have HB34 : Below w2.heap.size w2 w4 := below_then hb3 hb4
  have HB4 : Below w.heap.size w w4 := below_then HB2 HB34
  clear g1 g2 g3 g4 hsl4
  rcases hca with hca | hca | hca
  case inr.inl => subst hca; clear HV1 HV2; go_wp2; go_ret; exact ⟨rfl, HB4⟩
  case inr.inr => subst hca; clear HV1 HV2; go_wp2; go_ret; exact ⟨rfl, HB4⟩
  subst hca
  rcases HCB.out with hcb | hcb | hcb
  case inr.inl => subst hcb; clear HV1 HV2; go_wp2; go_ret; exact ⟨rfl, HB4⟩
  case inr.inr => subst hcb; clear HV1 HV2; go_wp2; go_ret; exact ⟨rfl, HB4⟩
  subst hcb
  obtain ⟨⟨f1, f2, f3, f4⟩, _⟩ := (HV1.out.below HB34).facts
  obtain ⟨⟨g1, g2, g3, g4⟩, _⟩ := (HV2.out.below HB34).facts
  go_wp2_with fail
  by_cases hab : a = b
  · refine (same_as (sameM_eq hab) (Kd.below Ha.out HB4) (Kd.below Hb.out HB4)).mono ?_
    have HAB := Lib.hid hab
    clear hab
    rintro e w5 ⟨rfl, hb5⟩
    have hc3 := SL.str (Hsl3.out.below (below_then hb4 hb5)) (m := m) Hm.out.symm
    have hc4 := SL.str (Hsl4.out.below hb5) (m := n) Hn.out.symm
    have hss : Hid ((encodeM a == encodeM b) = true) := by show (encodeM a == encodeM b) = true; rw [HAB.out]; exact beq_self_eq_true _
    clear f1 f2 f3 f4 g1 g2 g3 g4 HV1 HV2
    go_wp2
    go_ret
    exact ⟨by show Ending.returned (.bool (_ == _)) = _; rw [hss.out], below_then HB4 hb5⟩
  · refine (same_as (sameM_ne hab) (Kd.below Ha.out HB4) (Kd.below Hb.out HB4)).mono ?_
    have HAB := Lib.hid hab
    clear hab
    rintro e w5 ⟨rfl, hb5⟩
    have hs3 := Hsl3.out.below (below_then hb4 hb5)
    have hs4 := Hsl4.out.below hb5
    have hle3 := hs3.le
    have hle4 := hs4.le
    have hmx3 := hs3.max
    have hmx4 := hs4.max
    unfold maxLen at hmx3 hmx4
    rw [Hm.out] at hle3
    rw [Hn.out] at hle4
    have Hs3 := Lib.hid hs3
    have Hs4 := Lib.hid hs4
    have hap := enc_apart HZA.out HZB.out HoA.out HoB.out HAB.out
    rw [Hm.out, Hn.out] at hap
    have HAP := Lib.hid hap
    clear f1 f2 f3 f4 g1 g2 g3 g4 HV1 HV2 hs3 hs4 hap
    by_cases hmn : m ≤ n
    · have HNE : Hid ((List.take m (encodeM a) == List.take m (encodeM b)) = false) := beq_eq_false_iff_ne.2 (by have h := HAP.out; rwa [Nat.min_eq_left hmn] at h)
      have KEEP0 : ∀ w', Below w5.heap.size w5 w' → (fun w' => Below w5.heap.size w5 w' ∧ (convert 27 9 (.slice A3 m c3)).run Try.prog w' = .ok (.string ⟨((encodeM a).take m).toArray⟩) w' ∧ (convert 27 9 (.slice A4 m c4)).run Try.prog w' = .ok (.string ⟨((encodeM b).take m).toArray⟩) w') w' := fun w' hb => ⟨hb, SL.str ((Hs3.out.below hb).take (k := m) (c' := c3) (by rw [Hm.out]; exact Nat.le_refl _) hle3 (Nat.le_refl _)) (by rw [List.length_take, Hm.out, Nat.min_self]), SL.str ((Hs4.out.below hb).take (k := m) (c' := c4) (by rw [Hn.out]; exact hmn) (by omega) (Nat.le_refl _)) (by rw [List.length_take, Hn.out, Nat.min_eq_left hmn])⟩
      have KEEP1 := Lib.hid (KEEP0 _ (below_drew (Below.refl _ _)))
      clear KEEP0
      have hbd : (m : Int) ≤ (c4 : Int) := by omega
      go_wp2_with fail
      go_region_held3 (fun w' => Below w5.heap.size w5 w' ∧ (convert 27 9 (.slice A3 m c3)).run Try.prog w' = .ok (.string ⟨((encodeM a).take m).toArray⟩) w' ∧ (convert 27 9 (.slice A4 m c4)).run Try.prog w' = .ok (.string ⟨((encodeM b).take m).toArray⟩) w') (first | exact KEEP1.out | assumption) (fail)
      all_goals (go_wp2; go_ret; exact ⟨by show Ending.returned (.bool (!(_ == _))) = _; rw [HNE.out]; rfl, below_then HB4 (below_then hb5 (And.left (by assumption)))⟩)
    · have HNE : Hid ((List.take n (encodeM a) == List.take n (encodeM b)) = false) := beq_eq_false_iff_ne.2 (by have h := HAP.out; rwa [Nat.min_eq_right (by omega)] at h)
      have KEEP0 : ∀ w', Below w5.heap.size w5 w' → (fun w' => Below w5.heap.size w5 w' ∧ (convert 27 9 (.slice A3 n c3)).run Try.prog w' = .ok (.string ⟨((encodeM a).take n).toArray⟩) w' ∧ (convert 27 9 (.slice A4 n c4)).run Try.prog w' = .ok (.string ⟨((encodeM b).take n).toArray⟩) w') w' := fun w' hb => ⟨hb, SL.str ((Hs3.out.below hb).take (k := n) (c' := c3) (by rw [Hm.out]; omega) (by omega) (Nat.le_refl _)) (by rw [List.length_take, Hm.out, Nat.min_eq_left (by omega)]), SL.str ((Hs4.out.below hb).take (k := n) (c' := c4) (by rw [Hn.out]; exact Nat.le_refl _) hle4 (Nat.le_refl _)) (by rw [List.length_take, Hn.out, Nat.min_self])⟩
      have KEEP1 := Lib.hid (KEEP0 _ (below_drew (Below.refl _ _)))
      clear KEEP0
      have hnm : n < m := by omega
      have hbd : (n : Int) ≤ (c3 : Int) := by omega
      clear hmn
      go_wp2_with fail
      go_region_held3 (fun w' => Below w5.heap.size w5 w' ∧ (convert 27 9 (.slice A3 n c3)).run Try.prog w' = .ok (.string ⟨((encodeM a).take n).toArray⟩) w' ∧ (convert 27 9 (.slice A4 n c4)).run Try.prog w' = .ok (.string ⟨((encodeM b).take n).toArray⟩) w') (first | exact KEEP1.out | assumption) (fail)
      all_goals (go_wp2; go_ret; exact ⟨by show Ending.returned (.bool (!(_ == _))) = _; rw [HNE.out]; rfl, below_then HB4 (below_then hb5 (And.left (by assumption)))⟩)
end Go.Proofs.Ytpmokmhakdkpdaa.B
