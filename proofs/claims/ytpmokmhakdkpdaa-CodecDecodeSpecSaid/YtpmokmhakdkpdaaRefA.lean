import Derived.Test.YtpmokmhakdkpdaaRValueA
import Derived.Test.YtpmokmhakdkpdaaCodecPure
import Derived.Test.YtpmokmhakdkpdaaCheck
import Derived.Test.YtpmokmhakdkpdaaStr
import Derived.Deep.LoopGhost
import Derived.Deep.DeepCutAuto
namespace Go.Proofs.Ytpmokmhakdkpdaa.B
open Go.RowKit

/-- An answer without a memory of its own. -/
def Gives (a : Value) (w : World) (e : Ending) (w' : World) : Prop := e = .returned a ∧ Below w.heap.size w w'
theorem Gives.mk' {a b : Value} {w w' : World} (h : a = b) (hb : Below w.heap.size w w') : Gives b w (.returned a) w' := ⟨by rw [h], hb⟩

set_option maxRecDepth 100000 in
set_option maxHeartbeats 2000000 in
/-- The reference's Formed. -/
theorem rformed_calls : ∀ (v : Val) (w : World) (F : Foot) (cs : List Value), kVal.K w F v cs → Calls Try.prog 29 #[.agg cs.toArray] w (Gives (.bool v.formed) w) := by
  refine Val.ind (fun v ih => ?_)
  intro w F cs h
  obtain ⟨A, c, rfl, _, _, _, hl⟩ := kVal_open h
  clear h
  have hll := Nat.le_trans hl.le hl.max
  unfold maxLen at hll
  obtain ⟨k, n, s, l⟩ := v
  simp only at hl hll ih ⊢
  have HL := Lib.hid hl
  have HIH := Lib.hid ih
  clear hl ih
  by_cases h1 : k = 1
  · subst h1
    have hf : Hid (Val.formed ⟨1, n, s, l⟩ = (s.toList.isEmpty && l.isEmpty)) := by show Val.formed ⟨1, n, s, l⟩ = _; simp [Val.formed]
    have u1 : l.isEmpty = ((l.length : Int) == 0) := by cases l <;> simp <;> omega
    have u2 : s.toList.isEmpty = (s.toList == []) := by cases s.toList <;> rfl
    rw [u1, u2] at hf
    clear u1 u2
    cases c1 : (s.toList == [])
    all_goals cases c2 : ((l.length : Int) == 0)
    all_goals (rw [c1, c2] at hf; go_enter Try.func29, Try.ntmps29; go_wp2; go_ret; exact ⟨by rw [hf.out]; rfl, by (with_reducible repeat (first | exact Below.refl _ _ | assumption | refine below_drew ?_ | refine below_drewN ?_ _ | refine below_box ?_ _))⟩)
  by_cases h2 : k = 2
  · subst h2
    have hf : Hid (Val.formed ⟨2, n, s, l⟩ = (n == 0 && l.isEmpty)) := by show Val.formed ⟨2, n, s, l⟩ = _; simp [Val.formed]
    have u1 : l.isEmpty = ((l.length : Int) == 0) := by cases l <;> simp <;> omega
    rw [u1] at hf
    clear u1 h1
    cases c1 : (n == 0)
    all_goals cases c2 : ((l.length : Int) == 0)
    all_goals (rw [c1, c2] at hf; go_enter Try.func29, Try.ntmps29; go_wp2; go_ret; exact ⟨by rw [hf.out]; rfl, by (with_reducible repeat (first | exact Below.refl _ _ | assumption | refine below_drew ?_ | refine below_drewN ?_ _ | refine below_box ?_ _))⟩)
  by_cases h3 : k = 3
  · subst h3
    clear h1 h2
    have hf : Hid (Val.formed ⟨3, n, s, l⟩ = (n == 0 && (s.toList == []) && formedL l)) := by
      show Val.formed ⟨3, n, s, l⟩ = _
      have u2 : s.toList.isEmpty = (s.toList == []) := by cases s.toList <;> rfl
      simp only [Val.formed]
      rw [u2]
      rfl
    have HV := Lib.hid (VC.new w 3 n s (.slice A l.length c))
    go_enter Try.func29, Try.ntmps29
    go_upto_region 8 with fail
    go_loopw [3] (fun i' wr => ∃ i : Nat, i' = .int .i64 i ∧ i ≤ l.length ∧ Hid (formedL (l.take i) = true) ∧ Hid (VC wr w.heap.size 3 n s (.slice A l.length c)) ∧ Below w.heap.size w wr) (fun i' _ => l.length - (intOf i').toNat)
    case atStart => exact ⟨0, rfl, Nat.zero_le _, rfl, HV, by (with_reducible repeat (first | exact Below.refl _ _ | assumption | refine below_drew ?_ | refine below_drewN ?_ _ | refine below_box ?_ _))⟩
    case round =>
      obtain ⟨i, rfl, hi, hfi, hvc, hb⟩ := hrel
      clear HV
      obtain ⟨⟨f1, f2, f3, f4⟩, _⟩ := hvc.out.facts
      by_cases hin : i < l.length
      · obtain ⟨ad, A1, c1, rfl, g0, g1, g2, g3, hK⟩ := val_at (HL.out.below hb) hin
        have HK := Lib.hid hK
        clear hK
        cases hx : l[i].formed
        · have hfl : Hid (formedL l = false) := by
            show formedL l = false
            cases hl' : formedL l
            · rfl
            · rw [formedL_all hl' _ (List.getElem_mem hin)] at hx; cases hx
          go_wp2_with (go_at_call 29; refine (HIH.out _ (List.getElem_mem hin) _ F _ (Kd.below HK.out (by (with_reducible repeat (first | exact Below.refl _ _ | assumption | refine below_drew ?_ | refine below_drewN ?_ _ | refine below_box ?_ _))))).mono ?_; rw [hx]; rintro e w1 ⟨rfl, hb1⟩)
          go_ret
          exact ⟨by rw [hf.out, hfl.out, Bool.and_false]; rfl, below_then hb hb1⟩
        · go_wp2_with (go_at_call 29; refine (HIH.out _ (List.getElem_mem hin) _ F _ (Kd.below HK.out (by (with_reducible repeat (first | exact Below.refl _ _ | assumption | refine below_drew ?_ | refine below_drewN ?_ _ | refine below_box ?_ _))))).mono ?_; rw [hx]; rintro e w1 ⟨rfl, hb1⟩)
          go_roundw
          case rel => exact ⟨i + 1, by go_num, by omega, (formedL_take hin hfi.out).trans hx, hvc.out.below hb1, below_then hb hb1⟩
          case measure => simp [intOf]; omega
      · obtain rfl : i = l.length := by omega
        have hfl : Hid (formedL l = true) := by have := hfi.out; rwa [List.take_length] at this
        clear hfi
        cases c1 : (n == 0)
        all_goals cases c2 : (s.toList == [])
        all_goals (rw [c1, c2, hfl.out] at hf; go_wp2; go_ret; exact ⟨by rw [hf.out]; rfl, hb⟩)
  · have hf : Hid (Val.formed ⟨k, n, s, l⟩ = false) := by show Val.formed ⟨k, n, s, l⟩ = false; simp only [Val.formed]; rw [if_neg h1, if_neg h2, if_neg h3]
    go_enter Try.func29, Try.ntmps29
    go_wp2
    go_ret
    exact ⟨by rw [hf.out]; rfl, by (with_reducible repeat (first | exact Below.refl _ _ | assumption | refine below_drew ?_ | refine below_drewN ?_ _ | refine below_box ?_ _))⟩

set_option maxRecDepth 100000 in
set_option maxHeartbeats 2000000 in
/-- The reference's Depth. -/
theorem rdepth_calls : ∀ (v : Val) (w : World) (F : Foot) (cs : List Value), v.depth < 1000000000 → kVal.K w F v cs → Calls Try.prog 30 #[.agg cs.toArray] w (Gives (.int .i64 (v.depth : Nat)) w) := by
  refine Val.ind (fun v ih => ?_)
  intro w F cs hd h
  obtain ⟨A, c, rfl, _, _, _, hl⟩ := kVal_open h
  clear h
  have hll := Nat.le_trans hl.le hl.max
  unfold maxLen at hll
  obtain ⟨k, n, s, l⟩ := v
  simp only at hl hll ih ⊢
  have HL := Lib.hid hl
  have HIH := Lib.hid ih
  clear hl ih
  by_cases h3 : k = 3
  · subst h3
    have hf : Hid (Val.depth ⟨3, n, s, l⟩ = depthL l + 1) := by show Val.depth ⟨3, n, s, l⟩ = _; simp [Val.depth]
    have hdl : depthL l < 1000000000 := by rw [hf.out] at hd; omega
    clear hd
    have HV := Lib.hid (VC.new w 3 n s (.slice A l.length c))
    go_enter Try.func30, Try.ntmps30
    go_upto_region 5 with fail
    go_loopw [3, 4] (fun d' i' wr => ∃ i : Nat, i' = .int .i64 i ∧ d' = .int .i64 (depthL (l.take i)) ∧ i ≤ l.length ∧ Hid (VC wr w.heap.size 3 n s (.slice A l.length c)) ∧ Below w.heap.size w wr) (fun _ i' _ => l.length - (intOf i').toNat)
    case atStart => exact ⟨0, rfl, rfl, Nat.zero_le _, HV, by (with_reducible repeat (first | exact Below.refl _ _ | assumption | refine below_drew ?_ | refine below_drewN ?_ _ | refine below_box ?_ _))⟩
    case round =>
      obtain ⟨i, rfl, rfl, hi, hvc, hb⟩ := hrel
      clear HV
      obtain ⟨⟨f1, f2, f3, f4⟩, _⟩ := hvc.out.facts
      by_cases hin : i < l.length
      · obtain ⟨ad, A1, c1, rfl, g0, g1, g2, g3, hK⟩ := val_at (HL.out.below hb) hin
        have HK := Lib.hid hK
        clear hK
        have hdk : depthL (l.take i) < 1000000000 := Nat.lt_of_le_of_lt (depthL_le.2 (fun x hx => depth_le_of_mem (List.mem_of_mem_take hx))) hdl
        have hdx : l[i].depth < 1000000000 := Nat.lt_of_le_of_lt (depth_le_of_mem (List.getElem_mem hin)) hdl
        go_wp2_with (go_at_call 30; refine (HIH.out _ (List.getElem_mem hin) _ F _ hdx (Kd.below HK.out (by (with_reducible repeat (first | exact Below.refl _ _ | assumption | refine below_drew ?_ | refine below_drewN ?_ _ | refine below_box ?_ _))))).mono ?_; rintro e w1 ⟨rfl, hb1⟩)
        go_roundw
        case rel =>
          refine ⟨i + 1, by go_num, ?_, by omega, hvc.out.below hb1, below_then hb hb1⟩
          rw [depthL_take hin]
          congr 1
          have hm : Nat.max (depthL (l.take i)) l[i].depth = max (depthL (l.take i)) l[i].depth := rfl
          rw [hm]
          split <;> omega
        case measure => simp [intOf]; omega
      · obtain rfl : i = l.length := by omega
        have htl : Hid (depthL (l.take l.length) = depthL l) := by show depthL (l.take l.length) = depthL l; rw [List.take_length]
        have hdk : depthL (l.take l.length) < 1000000000 := by rw [htl.out]; exact hdl
        go_wp2
        go_ret
        exact ⟨by rw [hf.out, ← htl.out]; rfl, hb⟩
  · have hf : Hid (Val.depth ⟨k, n, s, l⟩ = 0) := by show Val.depth ⟨k, n, s, l⟩ = 0; simp only [Val.depth]; rw [if_neg h3]
    clear hd
    go_enter Try.func30, Try.ntmps30
    go_wp2
    go_ret
    exact ⟨by rw [hf.out]; rfl, by (with_reducible repeat (first | exact Below.refl _ _ | assumption | refine below_drew ?_ | refine below_drewN ?_ _ | refine below_box ?_ _))⟩

set_option maxRecDepth 100000 in
set_option maxHeartbeats 1000000 in
/-- The reference's Check. -/
theorem rcheck_calls {v : Val} {w : World} {F : Foot} {cs : List Value} (hd : v.depth < 1000000000) (h : kVal.K w F v cs) :
    Calls Try.prog 17 #[.agg cs.toArray] w (Gives (.int .i64 (checkM v)) w) := by
  have H := Lib.hid h
  obtain ⟨A, c, rfl, _, _, _, _⟩ := kVal_open h
  clear h
  have Hd := Lib.hid hd
  clear hd
  have HV := Lib.hid (VC.new w v.kind v.n v.s (.slice A v.l.length c))
  cases hf : v.formed
  · have hm : Hid (checkM v = 1) := by show checkM v = 1; unfold checkM; rw [hf]; rfl
    go_enter Try.func17, Try.ntmps17
    go_wp2_with (go_at_call 29; refine (rformed_calls v _ F _ (Kd.below H.out (by (with_reducible repeat (first | exact Below.refl _ _ | assumption | refine below_drew ?_ | refine below_drewN ?_ _ | refine below_box ?_ _))))).mono ?_; rw [hf]; rintro e w1 ⟨rfl, hb⟩)
    go_ret
    exact ⟨ret_int hm.out.symm, below_then (by (with_reducible repeat (first | exact Below.refl _ _ | assumption | refine below_drew ?_ | refine below_drewN ?_ _ | refine below_box ?_ _))) hb⟩
  · by_cases hdp : 16 < v.depth
    · have hm : Hid (checkM v = 2) := by show checkM v = 2; unfold checkM; rw [hf, if_pos rfl, if_pos hdp]
      go_enter Try.func17, Try.ntmps17
      go_wp2_with (first | (go_at_call 29; refine (rformed_calls v _ F _ (Kd.below H.out (by (with_reducible repeat (first | exact Below.refl _ _ | assumption | refine below_drew ?_ | refine below_drewN ?_ _ | refine below_box ?_ _))))).mono ?_; rw [hf]; rintro e w1 ⟨rfl, hb⟩; obtain ⟨⟨f1, f2, f3, f4⟩, _⟩ := (HV.out.below hb).facts) | (go_at_call 30; refine (rdepth_calls v _ F _ Hd.out (Kd.below H.out (below_then (by (with_reducible repeat (first | exact Below.refl _ _ | assumption | refine below_drew ?_ | refine below_drewN ?_ _ | refine below_box ?_ _))) hb))).mono ?_; rintro e w2 ⟨rfl, hb2⟩))
      go_ret
      exact ⟨ret_int hm.out.symm, below_then (below_then (by (with_reducible repeat (first | exact Below.refl _ _ | assumption | refine below_drew ?_ | refine below_drewN ?_ _ | refine below_box ?_ _))) hb) hb2⟩
    · have hm : Hid (checkM v = 0) := by show checkM v = 0; unfold checkM; rw [hf, if_pos rfl, if_neg hdp]
      go_enter Try.func17, Try.ntmps17
      go_wp2_with (first | (go_at_call 29; refine (rformed_calls v _ F _ (Kd.below H.out (by (with_reducible repeat (first | exact Below.refl _ _ | assumption | refine below_drew ?_ | refine below_drewN ?_ _ | refine below_box ?_ _))))).mono ?_; rw [hf]; rintro e w1 ⟨rfl, hb⟩; obtain ⟨⟨f1, f2, f3, f4⟩, _⟩ := (HV.out.below hb).facts) | (go_at_call 30; refine (rdepth_calls v _ F _ Hd.out (Kd.below H.out (below_then (by (with_reducible repeat (first | exact Below.refl _ _ | assumption | refine below_drew ?_ | refine below_drewN ?_ _ | refine below_box ?_ _))) hb))).mono ?_; rintro e w2 ⟨rfl, hb2⟩))
      go_ret
      exact ⟨ret_int hm.out.symm, below_then (below_then (by (with_reducible repeat (first | exact Below.refl _ _ | assumption | refine below_drew ?_ | refine below_drewN ?_ _ | refine below_box ?_ _))) hb) hb2⟩
end Go.Proofs.Ytpmokmhakdkpdaa.B
