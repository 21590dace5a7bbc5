import Derived.Test.YtpmokmhakdkpdaaCheck
import Derived.Test.YtpmokmhakdkpdaaWriteC
import Derived.Deep.RegionWith
namespace Go.Proofs.Ytpmokmhakdkpdaa.B
set_option linter.unusedSimpArgs false
set_option linter.unusedVariables false
open Go.RowKit
/-- The writers write every well-formed value. -/
theorem encC_all : ∀ v : Val, v.formed = true → EncC v := by
  refine Val.ind (fun v ih => ?_)
  intro hf w B u xs F cs ga gb hw hna hnb hO hK hF hFl hl hB
  refine ⟨fun hk => ?_, fun hk => ?_, fun hk => ?_⟩
  · obtain ⟨k, n, s, l⟩ := v
    simp only at hk
    subst hk
    rw [enc_int] at hl ⊢
    exact write1_calls hK hO (by simp only [List.length_cons] at hl; omega) hB
  · obtain ⟨k, n, s, l⟩ := v
    simp only at hk
    subst hk
    rw [enc_text] at hl ⊢
    exact write2_calls hK hO (by simp only [List.length_cons, List.length_append, Array.length_toList] at hl; show xs.length + s.size ≤ _; have : s.data.size = s.size := rfl; omega) hB
  · obtain ⟨k, n, s, l⟩ := v
    simp only at hk
    subst hk
    exact write3_calls hw hna hnb hO hK hF hFl hl hB (fun x hx => ⟨formedL_all (formed_list_of hf).2.2 x hx, ih x hx (formedL_all (formed_list_of hf).2.2 x hx)⟩)
/-- codec.Encode's answer. -/
def encodeM (v : Val) : List UInt8 := if checkM v = 0 then enc v else []
set_option maxRecDepth 100000 in
set_option maxHeartbeats 2000000 in
theorem encode_calls {v : Val} {w : World} {F : Foot} {cs : List Value} (hd : v.depth < 1000000000) (hl : (encodeM v).length ≤ 70368744177600) (h : kVal.K w F v cs) :
    Calls Try.prog 12 #[.agg cs.toArray] w fun e w' => ∃ v', e = .returned (.tuple #[v', .int .i64 (checkM v)]) ∧ OwnB w' w.heap.size v' (encodeM v) ∧ Below w.heap.size w w' := by
  have H := Lib.hid h
  obtain ⟨A, c, rfl, _, _, _, _⟩ := kVal_open h
  clear h
  have Hd := Lib.hid hd
  have HL := Lib.hid hl
  clear hd hl
  by_cases hm : checkM v = 0
  · obtain ⟨hf, _⟩ := checkM_ok hm
    have HE : Hid (encodeM v = enc v) := by show encodeM v = enc v; unfold encodeM; rw [if_pos hm]
    have Hm : Hid (checkM v = 0) := hm
    have HF0 : Hid (∀ k, F k → k < w.heap.size → True) := fun _ _ _ => trivial
    clear hm
    rcases formed_kind hf with hkind | hkind | hkind
    all_goals (rw [hkind] at H; have HK := Lib.hid hkind; have HFM := Lib.hid hf; rw [hkind]; have HKK : ∀ w', Below w.heap.size w w' → kVal.K w' (fun k => F k ∧ k < w.heap.size) v _ := fun w' hb => Kd.below (kVal.mono (fun k hk hl => ⟨hk, hl⟩) H.out) hb; clear hkind hf)
    · go_enter Try.func12, Try.ntmps12
      go_wp2_with (go_at_call 16; refine (check_calls (v := v) (F := F) Hd.out (Kd.below H.out (by (with_reducible repeat (first | exact Below.refl _ _ | assumption | refine below_drew ?_ | refine below_drewN ?_ _ | refine below_box ?_ _))))).mono ?_; rw [Hm.out]; rintro e w1 ⟨rfl, hb⟩)
      have hz : w.heap.size < w1.heap.size := by have := hb.size; simp at this; omega
      have HS1 := Lib.hid (held4 hb (by simp) (held4_new w _ _ _ _ 24))
      refine wp_region_held_drew (S := fun w' => (w'.cell? ⟨w.heap.size, 0, none⟩ = some (.int .i64 1) ∧ w'.cell? ⟨w.heap.size, 1, none⟩ = some (.int .i64 v.n) ∧ w'.cell? ⟨w.heap.size, 2, none⟩ = some (.string v.s) ∧ w'.cell? ⟨w.heap.size, 3, none⟩ = some (.slice A v.l.length c))) rfl HS1.out (fun hHeld => ?_)
      refine wpAnyH_take (i := 1) (v := ?_) rfl (by kernel_rfl) (by kernel_rfl) (by kernel_rfl) (fun _ _ _ h => h) (Or.inl ⟨by rfl, ?_⟩) (by assumption) ?_
      rotate_left
      · intro w hSw
        (try dsimp only at hSw)
        go_simp
        (try with_reducible rfl)
      simp only [Act.put, List.setIfInBounds_toArray, List.set_cons_zero, List.set_cons_succ]
      refine wpAnyH_take (i := 2) (v := ?_) rfl (by kernel_rfl) (by kernel_rfl) (by kernel_rfl) (fun _ _ _ h => h) (Or.inl ⟨by rfl, ?_⟩) (by assumption) ?_
      rotate_left
      · intro w hSw
        (try dsimp only at hSw)
        go_simp
        (try with_reducible rfl)
      simp only [Act.put, List.setIfInBounds_toArray, List.set_cons_zero, List.set_cons_succ]
      refine wpAnyH_take (i := 7) (v := ?_) rfl (by kernel_rfl) (by kernel_rfl) (by kernel_rfl) (fun _ _ _ h => h) (Or.inl ⟨by rfl, ?_⟩) (by assumption) ?_
      rotate_left
      · intro w hSw
        (try dsimp only at hSw)
        go_simp
        (try with_reducible rfl)
      simp only [Act.put, List.setIfInBounds_toArray, List.set_cons_zero, List.set_cons_succ]
      refine wpAnyH_ready (rs := [0]) (by kernel_rfl) (by simp) (AllReadyH.cons rfl (fun K hK => ?_) AllReadyH.nil)
      go_simp
      refine newWriter_calls.mono ?_
      rintro e w2 ⟨rfl, hW, hb2, hsz⟩
      have HS2 := Lib.hid (held4 hb2 hz HS1.out)
      have cfn := cell_of_heap hW.arr 1
      simp only [World.size_drew, List.getElem?_toArray, List.getElem?_cons_succ, List.getElem?_cons_zero] at hW cfn hsz
      have HW2 := Lib.hid hW
      have HB2 := Lib.hid hb2
      have hz2 : w.heap.size < w2.heap.size := by have := hb2.size; simp at this; omega
      clear hW hb2
      go_simp
      refine hK.out _ _ ?_ (fun hHeld => ?_)
      · exact HS2.out
      clear hK K
      try simp only [Act.put, List.setIfInBounds_toArray, List.set_cons_zero, List.set_cons_succ]
      refine wpAnyH_take (i := 3) (v := ?_) rfl (by kernel_rfl) (by kernel_rfl) (by kernel_rfl) (fun _ _ _ h => h) (Or.inl ⟨by rfl, ?_⟩) (by assumption) ?_
      rotate_left
      · intro w hSw
        (try dsimp only at hSw)
        go_simp
        (try with_reducible rfl)
      simp only [Act.put, List.setIfInBounds_toArray, List.set_cons_zero, List.set_cons_succ]
      refine wpAnyH_take (i := 4) (v := ?_) rfl (by kernel_rfl) (by kernel_rfl) (by kernel_rfl) (fun _ _ _ h => h) (Or.inl ⟨by rfl, ?_⟩) (by assumption) ?_
      rotate_left
      · intro w hSw
        (try dsimp only at hSw)
        go_simp
        (try with_reducible rfl)
      simp only [Act.put, List.setIfInBounds_toArray, List.set_cons_zero, List.set_cons_succ]
      refine wpAnyH_take (i := 5) (v := ?_) rfl (by kernel_rfl) (by kernel_rfl) (by kernel_rfl) (fun _ _ _ h => h) (Or.inl ⟨by rfl, ?_⟩) (by assumption) ?_
      rotate_left
      · intro w hSw
        (try dsimp only at hSw)
        go_simp
        (try with_reducible rfl)
      simp only [Act.put, List.setIfInBounds_toArray, List.set_cons_zero, List.set_cons_succ]
      refine wpAnyH_ready (rs := [6]) (by kernel_rfl) (by simp) (AllReadyH.cons rfl (fun K hK => ?_) AllReadyH.nil)
      go_simp
      refine hK.out _ _ ?_ (fun hHeld => ?_)
      · exact HS2.out
      clear hK K
      try simp only [Act.put, List.setIfInBounds_toArray, List.set_cons_zero, List.set_cons_succ]
      refine wpAnyH_ready (rs := [8]) (by kernel_rfl) (by simp) (AllReadyH.cons rfl (fun K hK => ?_) AllReadyH.nil)
      go_simp
      have hK2 := HKK w2 (below_then (below_then (by (with_reducible repeat (first | exact Below.refl _ _ | assumption | refine below_drew ?_ | refine below_drewN ?_ _ | refine below_box ?_ _))) hb) (below_then (by (with_reducible repeat (first | exact Below.refl _ _ | assumption | refine below_drew ?_ | refine below_drewN ?_ _ | refine below_box ?_ _))) HB2.out))
      have hs2 : w.heap.size ≤ w2.heap.size := by omega
      have hl2 : ∀ k, (F k ∧ k < w.heap.size) → k < w2.heap.size := fun k hk => by omega
      have hlen : ([] : List UInt8).length + (enc v).length ≤ 70368744177600 := by have := HL.out; rw [HE.out] at this; simpa using this
      refine ((encC_all v HFM.out w2 w.heap.size (.slice none 0 0) [] (fun k => F k ∧ k < w.heap.size) _ _ _ HW2.out (by simp [Value.ownBlock]) (by simp [Value.ownBlock]) Own.nil hK2 (by simp [Value.ownBlock]) hl2 hlen hs2).1 HK.out).mono ?_
      clear hK2 hs2 hl2 hlen
      rintro e w3 ⟨v3, rfl, hown3, hgrow3, hat3⟩
      have hb3 := below_of_grown hgrow3 (by simp [Value.ownBlock])
      have HS3 := Lib.hid (held4 hb3 hz2 HS2.out)
      go_simp
      refine hK.out _ _ ?_ (fun hHeld => ?_)
      · exact HS3.out
      clear hK K
      try simp only [Act.put, List.setIfInBounds_toArray, List.set_cons_zero, List.set_cons_succ]
      refine wpAnyH_ready (rs := [9]) (by kernel_rfl) (by simp) (AllReadyH.cons rfl (fun K hK => ?_) AllReadyH.nil)
      go_simp
      refine hK.out _ _ ?_ (fun hHeld => ?_)
      · exact HS3.out
      clear hK K
      try simp only [Act.put, List.setIfInBounds_toArray, List.set_cons_zero, List.set_cons_succ]
      refine wpAnyH_ready (rs := [10]) (by kernel_rfl) (by simp) (AllReadyH.cons rfl (fun K hK => ?_) AllReadyH.nil)
      go_simp
      refine hK.out _ _ ?_ (fun hHeld => ?_)
      · exact HS3.out
      clear hK K
      try simp only [Act.put, List.setIfInBounds_toArray, List.set_cons_zero, List.set_cons_succ]
      refine wpAnyH_done (by kernel_rfl) ?_ _
      go_wp2
      go_ret2
      rw [Hm.out]
      exact ⟨v3, rfl, by rw [HE.out]; exact hown3, below_then (below_then (below_then (by (with_reducible repeat (first | exact Below.refl _ _ | assumption | refine below_drew ?_ | refine below_drewN ?_ _ | refine below_box ?_ _))) hb) (below_then (by (with_reducible repeat (first | exact Below.refl _ _ | assumption | refine below_drew ?_ | refine below_drewN ?_ _ | refine below_box ?_ _))) HB2.out)) hb3⟩
    · go_enter Try.func12, Try.ntmps12
      go_wp2_with (go_at_call 16; refine (check_calls (v := v) (F := F) Hd.out (Kd.below H.out (by (with_reducible repeat (first | exact Below.refl _ _ | assumption | refine below_drew ?_ | refine below_drewN ?_ _ | refine below_box ?_ _))))).mono ?_; rw [Hm.out]; rintro e w1 ⟨rfl, hb⟩)
      have hz : w.heap.size < w1.heap.size := by have := hb.size; simp at this; omega
      have HS1 := Lib.hid (held4 hb (by simp) (held4_new w _ _ _ _ 24))
      refine wp_region_held_drew (S := fun w' => (w'.cell? ⟨w.heap.size, 0, none⟩ = some (.int .i64 2) ∧ w'.cell? ⟨w.heap.size, 1, none⟩ = some (.int .i64 v.n) ∧ w'.cell? ⟨w.heap.size, 2, none⟩ = some (.string v.s) ∧ w'.cell? ⟨w.heap.size, 3, none⟩ = some (.slice A v.l.length c))) rfl HS1.out (fun hHeld => ?_)
      refine wpAnyH_take (i := 1) (v := ?_) rfl (by kernel_rfl) (by kernel_rfl) (by kernel_rfl) (fun _ _ _ h => h) (Or.inl ⟨by rfl, ?_⟩) (by assumption) ?_
      rotate_left
      · intro w hSw
        (try dsimp only at hSw)
        go_simp
        (try with_reducible rfl)
      simp only [Act.put, List.setIfInBounds_toArray, List.set_cons_zero, List.set_cons_succ]
      refine wpAnyH_take (i := 2) (v := ?_) rfl (by kernel_rfl) (by kernel_rfl) (by kernel_rfl) (fun _ _ _ h => h) (Or.inl ⟨by rfl, ?_⟩) (by assumption) ?_
      rotate_left
      · intro w hSw
        (try dsimp only at hSw)
        go_simp
        (try with_reducible rfl)
      simp only [Act.put, List.setIfInBounds_toArray, List.set_cons_zero, List.set_cons_succ]
      refine wpAnyH_take (i := 7) (v := ?_) rfl (by kernel_rfl) (by kernel_rfl) (by kernel_rfl) (fun _ _ _ h => h) (Or.inl ⟨by rfl, ?_⟩) (by assumption) ?_
      rotate_left
      · intro w hSw
        (try dsimp only at hSw)
        go_simp
        (try with_reducible rfl)
      simp only [Act.put, List.setIfInBounds_toArray, List.set_cons_zero, List.set_cons_succ]
      refine wpAnyH_ready (rs := [0]) (by kernel_rfl) (by simp) (AllReadyH.cons rfl (fun K hK => ?_) AllReadyH.nil)
      go_simp
      refine newWriter_calls.mono ?_
      rintro e w2 ⟨rfl, hW, hb2, hsz⟩
      have HS2 := Lib.hid (held4 hb2 hz HS1.out)
      have cfn := cell_of_heap hW.arr 2
      simp only [World.size_drew, List.getElem?_toArray, List.getElem?_cons_succ, List.getElem?_cons_zero] at hW cfn hsz
      have HW2 := Lib.hid hW
      have HB2 := Lib.hid hb2
      have hz2 : w.heap.size < w2.heap.size := by have := hb2.size; simp at this; omega
      clear hW hb2
      go_simp
      refine hK.out _ _ ?_ (fun hHeld => ?_)
      · exact HS2.out
      clear hK K
      try simp only [Act.put, List.setIfInBounds_toArray, List.set_cons_zero, List.set_cons_succ]
      refine wpAnyH_take (i := 3) (v := ?_) rfl (by kernel_rfl) (by kernel_rfl) (by kernel_rfl) (fun _ _ _ h => h) (Or.inl ⟨by rfl, ?_⟩) (by assumption) ?_
      rotate_left
      · intro w hSw
        (try dsimp only at hSw)
        go_simp
        (try with_reducible rfl)
      simp only [Act.put, List.setIfInBounds_toArray, List.set_cons_zero, List.set_cons_succ]
      refine wpAnyH_take (i := 4) (v := ?_) rfl (by kernel_rfl) (by kernel_rfl) (by kernel_rfl) (fun _ _ _ h => h) (Or.inl ⟨by rfl, ?_⟩) (by assumption) ?_
      rotate_left
      · intro w hSw
        (try dsimp only at hSw)
        go_simp
        (try with_reducible rfl)
      simp only [Act.put, List.setIfInBounds_toArray, List.set_cons_zero, List.set_cons_succ]
      refine wpAnyH_take (i := 5) (v := ?_) rfl (by kernel_rfl) (by kernel_rfl) (by kernel_rfl) (fun _ _ _ h => h) (Or.inl ⟨by rfl, ?_⟩) (by assumption) ?_
      rotate_left
      · intro w hSw
        (try dsimp only at hSw)
        go_simp
        (try with_reducible rfl)
      simp only [Act.put, List.setIfInBounds_toArray, List.set_cons_zero, List.set_cons_succ]
      refine wpAnyH_ready (rs := [6]) (by kernel_rfl) (by simp) (AllReadyH.cons rfl (fun K hK => ?_) AllReadyH.nil)
      go_simp
      refine hK.out _ _ ?_ (fun hHeld => ?_)
      · exact HS2.out
      clear hK K
      try simp only [Act.put, List.setIfInBounds_toArray, List.set_cons_zero, List.set_cons_succ]
      refine wpAnyH_ready (rs := [8]) (by kernel_rfl) (by simp) (AllReadyH.cons rfl (fun K hK => ?_) AllReadyH.nil)
      go_simp
      have hK2 := HKK w2 (below_then (below_then (by (with_reducible repeat (first | exact Below.refl _ _ | assumption | refine below_drew ?_ | refine below_drewN ?_ _ | refine below_box ?_ _))) hb) (below_then (by (with_reducible repeat (first | exact Below.refl _ _ | assumption | refine below_drew ?_ | refine below_drewN ?_ _ | refine below_box ?_ _))) HB2.out))
      have hs2 : w.heap.size ≤ w2.heap.size := by omega
      have hl2 : ∀ k, (F k ∧ k < w.heap.size) → k < w2.heap.size := fun k hk => by omega
      have hlen : ([] : List UInt8).length + (enc v).length ≤ 70368744177600 := by have := HL.out; rw [HE.out] at this; simpa using this
      refine ((encC_all v HFM.out w2 w.heap.size (.slice none 0 0) [] (fun k => F k ∧ k < w.heap.size) _ _ _ HW2.out (by simp [Value.ownBlock]) (by simp [Value.ownBlock]) Own.nil hK2 (by simp [Value.ownBlock]) hl2 hlen hs2).2.1 HK.out).mono ?_
      clear hK2 hs2 hl2 hlen
      rintro e w3 ⟨v3, rfl, hown3, hgrow3, hat3⟩
      have hb3 := below_of_grown hgrow3 (by simp [Value.ownBlock])
      have HS3 := Lib.hid (held4 hb3 hz2 HS2.out)
      go_simp
      refine hK.out _ _ ?_ (fun hHeld => ?_)
      · exact HS3.out
      clear hK K
      try simp only [Act.put, List.setIfInBounds_toArray, List.set_cons_zero, List.set_cons_succ]
      refine wpAnyH_ready (rs := [9]) (by kernel_rfl) (by simp) (AllReadyH.cons rfl (fun K hK => ?_) AllReadyH.nil)
      go_simp
      refine hK.out _ _ ?_ (fun hHeld => ?_)
      · exact HS3.out
      clear hK K
      try simp only [Act.put, List.setIfInBounds_toArray, List.set_cons_zero, List.set_cons_succ]
      refine wpAnyH_ready (rs := [10]) (by kernel_rfl) (by simp) (AllReadyH.cons rfl (fun K hK => ?_) AllReadyH.nil)
      go_simp
      refine hK.out _ _ ?_ (fun hHeld => ?_)
      · exact HS3.out
      clear hK K
      try simp only [Act.put, List.setIfInBounds_toArray, List.set_cons_zero, List.set_cons_succ]
      refine wpAnyH_done (by kernel_rfl) ?_ _
      go_wp2
      go_ret2
      rw [Hm.out]
      exact ⟨v3, rfl, by rw [HE.out]; exact hown3, below_then (below_then (below_then (by (with_reducible repeat (first | exact Below.refl _ _ | assumption | refine below_drew ?_ | refine below_drewN ?_ _ | refine below_box ?_ _))) hb) (below_then (by (with_reducible repeat (first | exact Below.refl _ _ | assumption | refine below_drew ?_ | refine below_drewN ?_ _ | refine below_box ?_ _))) HB2.out)) hb3⟩
    · go_enter Try.func12, Try.ntmps12
      go_wp2_with (go_at_call 16; refine (check_calls (v := v) (F := F) Hd.out (Kd.below H.out (by (with_reducible repeat (first | exact Below.refl _ _ | assumption | refine below_drew ?_ | refine below_drewN ?_ _ | refine below_box ?_ _))))).mono ?_; rw [Hm.out]; rintro e w1 ⟨rfl, hb⟩)
      have hz : w.heap.size < w1.heap.size := by have := hb.size; simp at this; omega
      have HS1 := Lib.hid (held4 hb (by simp) (held4_new w _ _ _ _ 24))
      refine wp_region_held_drew (S := fun w' => (w'.cell? ⟨w.heap.size, 0, none⟩ = some (.int .i64 3) ∧ w'.cell? ⟨w.heap.size, 1, none⟩ = some (.int .i64 v.n) ∧ w'.cell? ⟨w.heap.size, 2, none⟩ = some (.string v.s) ∧ w'.cell? ⟨w.heap.size, 3, none⟩ = some (.slice A v.l.length c))) rfl HS1.out (fun hHeld => ?_)
      refine wpAnyH_take (i := 1) (v := ?_) rfl (by kernel_rfl) (by kernel_rfl) (by kernel_rfl) (fun _ _ _ h => h) (Or.inl ⟨by rfl, ?_⟩) (by assumption) ?_
      rotate_left
      · intro w hSw
        (try dsimp only at hSw)
        go_simp
        (try with_reducible rfl)
      simp only [Act.put, List.setIfInBounds_toArray, List.set_cons_zero, List.set_cons_succ]
      refine wpAnyH_take (i := 2) (v := ?_) rfl (by kernel_rfl) (by kernel_rfl) (by kernel_rfl) (fun _ _ _ h => h) (Or.inl ⟨by rfl, ?_⟩) (by assumption) ?_
      rotate_left
      · intro w hSw
        (try dsimp only at hSw)
        go_simp
        (try with_reducible rfl)
      simp only [Act.put, List.setIfInBounds_toArray, List.set_cons_zero, List.set_cons_succ]
      refine wpAnyH_take (i := 7) (v := ?_) rfl (by kernel_rfl) (by kernel_rfl) (by kernel_rfl) (fun _ _ _ h => h) (Or.inl ⟨by rfl, ?_⟩) (by assumption) ?_
      rotate_left
      · intro w hSw
        (try dsimp only at hSw)
        go_simp
        (try with_reducible rfl)
      simp only [Act.put, List.setIfInBounds_toArray, List.set_cons_zero, List.set_cons_succ]
      refine wpAnyH_ready (rs := [0]) (by kernel_rfl) (by simp) (AllReadyH.cons rfl (fun K hK => ?_) AllReadyH.nil)
      go_simp
      refine newWriter_calls.mono ?_
      rintro e w2 ⟨rfl, hW, hb2, hsz⟩
      have HS2 := Lib.hid (held4 hb2 hz HS1.out)
      have cfn := cell_of_heap hW.arr 3
      simp only [World.size_drew, List.getElem?_toArray, List.getElem?_cons_succ, List.getElem?_cons_zero] at hW cfn hsz
      have HW2 := Lib.hid hW
      have HB2 := Lib.hid hb2
      have hz2 : w.heap.size < w2.heap.size := by have := hb2.size; simp at this; omega
      clear hW hb2
      go_simp
      refine hK.out _ _ ?_ (fun hHeld => ?_)
      · exact HS2.out
      clear hK K
      try simp only [Act.put, List.setIfInBounds_toArray, List.set_cons_zero, List.set_cons_succ]
      refine wpAnyH_take (i := 3) (v := ?_) rfl (by kernel_rfl) (by kernel_rfl) (by kernel_rfl) (fun _ _ _ h => h) (Or.inl ⟨by rfl, ?_⟩) (by assumption) ?_
      rotate_left
      · intro w hSw
        (try dsimp only at hSw)
        go_simp
        (try with_reducible rfl)
      simp only [Act.put, List.setIfInBounds_toArray, List.set_cons_zero, List.set_cons_succ]
      refine wpAnyH_take (i := 4) (v := ?_) rfl (by kernel_rfl) (by kernel_rfl) (by kernel_rfl) (fun _ _ _ h => h) (Or.inl ⟨by rfl, ?_⟩) (by assumption) ?_
      rotate_left
      · intro w hSw
        (try dsimp only at hSw)
        go_simp
        (try with_reducible rfl)
      simp only [Act.put, List.setIfInBounds_toArray, List.set_cons_zero, List.set_cons_succ]
      refine wpAnyH_take (i := 5) (v := ?_) rfl (by kernel_rfl) (by kernel_rfl) (by kernel_rfl) (fun _ _ _ h => h) (Or.inl ⟨by rfl, ?_⟩) (by assumption) ?_
      rotate_left
      · intro w hSw
        (try dsimp only at hSw)
        go_simp
        (try with_reducible rfl)
      simp only [Act.put, List.setIfInBounds_toArray, List.set_cons_zero, List.set_cons_succ]
      refine wpAnyH_ready (rs := [6]) (by kernel_rfl) (by simp) (AllReadyH.cons rfl (fun K hK => ?_) AllReadyH.nil)
      go_simp
      refine hK.out _ _ ?_ (fun hHeld => ?_)
      · exact HS2.out
      clear hK K
      try simp only [Act.put, List.setIfInBounds_toArray, List.set_cons_zero, List.set_cons_succ]
      refine wpAnyH_ready (rs := [8]) (by kernel_rfl) (by simp) (AllReadyH.cons rfl (fun K hK => ?_) AllReadyH.nil)
      go_simp
      have hK2 := HKK w2 (below_then (below_then (by (with_reducible repeat (first | exact Below.refl _ _ | assumption | refine below_drew ?_ | refine below_drewN ?_ _ | refine below_box ?_ _))) hb) (below_then (by (with_reducible repeat (first | exact Below.refl _ _ | assumption | refine below_drew ?_ | refine below_drewN ?_ _ | refine below_box ?_ _))) HB2.out))
      have hs2 : w.heap.size ≤ w2.heap.size := by omega
      have hl2 : ∀ k, (F k ∧ k < w.heap.size) → k < w2.heap.size := fun k hk => by omega
      have hlen : ([] : List UInt8).length + (enc v).length ≤ 70368744177600 := by have := HL.out; rw [HE.out] at this; simpa using this
      refine ((encC_all v HFM.out w2 w.heap.size (.slice none 0 0) [] (fun k => F k ∧ k < w.heap.size) _ _ _ HW2.out (by simp [Value.ownBlock]) (by simp [Value.ownBlock]) Own.nil hK2 (by simp [Value.ownBlock]) hl2 hlen hs2).2.2 HK.out).mono ?_
      clear hK2 hs2 hl2 hlen
      rintro e w3 ⟨v3, rfl, hown3, hgrow3, hat3⟩
      have hb3 := below_of_grown hgrow3 (by simp [Value.ownBlock])
      have HS3 := Lib.hid (held4 hb3 hz2 HS2.out)
      go_simp
      refine hK.out _ _ ?_ (fun hHeld => ?_)
      · exact HS3.out
      clear hK K
      try simp only [Act.put, List.setIfInBounds_toArray, List.set_cons_zero, List.set_cons_succ]
      refine wpAnyH_ready (rs := [9]) (by kernel_rfl) (by simp) (AllReadyH.cons rfl (fun K hK => ?_) AllReadyH.nil)
      go_simp
      refine hK.out _ _ ?_ (fun hHeld => ?_)
      · exact HS3.out
      clear hK K
      try simp only [Act.put, List.setIfInBounds_toArray, List.set_cons_zero, List.set_cons_succ]
      refine wpAnyH_ready (rs := [10]) (by kernel_rfl) (by simp) (AllReadyH.cons rfl (fun K hK => ?_) AllReadyH.nil)
      go_simp
      refine hK.out _ _ ?_ (fun hHeld => ?_)
      · exact HS3.out
      clear hK K
      try simp only [Act.put, List.setIfInBounds_toArray, List.set_cons_zero, List.set_cons_succ]
      refine wpAnyH_done (by kernel_rfl) ?_ _
      go_wp2
      go_ret2
      rw [Hm.out]
      exact ⟨v3, rfl, by rw [HE.out]; exact hown3, below_then (below_then (below_then (by (with_reducible repeat (first | exact Below.refl _ _ | assumption | refine below_drew ?_ | refine below_drewN ?_ _ | refine below_box ?_ _))) hb) (below_then (by (with_reducible repeat (first | exact Below.refl _ _ | assumption | refine below_drew ?_ | refine below_drewN ?_ _ | refine below_box ?_ _))) HB2.out)) hb3⟩
  · have hne : (checkM v == 0) = false := by simpa using hm
    have HE : Hid (encodeM v = []) := by show encodeM v = []; unfold encodeM; rw [if_neg hm]
    clear hm
    go_enter Try.func12, Try.ntmps12
    go_wp2_with (go_at_call 16; refine (check_calls (F := F) Hd.out (Kd.below H.out (by (with_reducible repeat (first | exact Below.refl _ _ | assumption | refine below_drew ?_ | refine below_drewN ?_ _ | refine below_box ?_ _))))).mono ?_; rintro e w1 ⟨rfl, hb⟩)
    go_ret2
    exact ⟨_, rfl, by rw [HE.out]; exact Own.nil, below_then (by (with_reducible repeat (first | exact Below.refl _ _ | assumption | refine below_drew ?_ | refine below_drewN ?_ _ | refine below_box ?_ _))) hb⟩
end Go.Proofs.Ytpmokmhakdkpdaa.B
