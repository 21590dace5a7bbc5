import Derived.Test.YtpmokmhakdkpdaaRReadD
namespace Go.Proofs.Ytpmokmhakdkpdaa.B
open Go.RowKit

set_option maxRecDepth 100000 in
set_option maxHeartbeats 3000000 in
theorem rvalue_list0 {w : World} {g : Nat} {F : Foot} {xs : List UInt8} {p : Nat} {c : UInt8} {r : List UInt8} (h : RS w g F xs p false) (hF : ∀ k, F k → k < w.heap.size) (hx : xs.drop p = c :: r) (h1 : c.toNat = 3) :
    Calls Try.prog 34 #[.pointer (some ⟨g, 0, none⟩), .int .i64 16] w (RV w g F xs p 0) := by
  have HX := Lib.hid hx
  have H0 := Lib.hid (RV0.mk' h hF)
  have hc256 : c.toNat < 256 := c.toNat_lt
  clear h hF hx
  have HC := Lib.hid h1
  have b1 : ((c.toNat : Int) == 1) = false := by simp; omega
  have b2 : ((c.toNat : Int) == 2) = false := by simp; omega
  have b3 : ((c.toNat : Int) == 3) = true := by simp; omega
  clear h1
  go_enter Try.func34, Try.ntmps34
  go_wp2_with fail
  refine (next_cons H0.out.rs HX.out).mono ?_
  rintro e w1 ⟨rfl, hr1, hx1, hg1⟩
  have HX1 := Lib.hid hx1
  have HR1 := Lib.hid hr1
  have HV1 := Lib.hid (H0.out.vc.grown hg1 H0.out.hgb)
  have HG1 := Lib.hid (grown_trans H0.out.grown hg1)
  clear hx1 hr1 hg1
  go_wp2_with fail
  refine (rnum_calls HR1.out).mono ?_
  rintro e w2 ⟨u, q, b, rfl, hr2, hn2, hu2, hg2⟩
  rw [HX1.out] at hn2
  have HN2 := Lib.hid hn2
  have HR2 := Lib.hid hr2
  have HV2 := Lib.hid (HV1.out.grown hg2 H0.out.hgb)
  have HG2 := Lib.hid (grown_trans HG1.out hg2)
  have HU := Lib.hid hu2
  clear hn2 hr2 hg2 HV1 HG1 HR1
  have HRE : Hid (valM 0 (xs.drop p) = none) := by show valM 0 (xs.drop p) = _; rw [HX.out]; exact valM_30 HC.out
  obtain ⟨⟨e1, e2, e3, e4⟩, e5, e6, e7, e8⟩ := HV2.out.facts
  have hq := HR2.out.le
  have hl63 := HR2.out.len
  have k1 : IntKind.i64.wrap ((xs.length : Int) - (q : Int)) = (xs.length : Int) - (q : Int) := IntWalk.i64_in _ (by omega)
  have k2 : IntKind.u64.wrap ((xs.length : Int) - (q : Int)) = (xs.length : Int) - (q : Int) := by rw [IntKind.wrap_u64]; omega
  obtain ⟨A1, c1, g0, g1, g2, z3, z4, hs⟩ := HR2.out.facts
  have HS := Lib.hid hs
  have HVQ := Lib.hid (fun n => (HV2.out.below (below_drewN (Below.refl _ _) n)).grown (grown_setg (g := g) (o := 2) (u := .bool true)) H0.out.hgb)
  have hdl : Hid ((xs.drop q).length = xs.length - q) := List.length_drop
  clear hs
  have y1 := fun n => (HVQ.out n).facts.1.1
  have y2 := fun n => (HVQ.out n).facts.1.2.1
  have y3 := fun n => (HVQ.out n).facts.1.2.2.1
  have y4 := fun n => (HVQ.out n).facts.1.2.2.2
  have y5 := fun n => (HVQ.out n).facts.2.1
  have y6 := fun n => (HVQ.out n).facts.2.2.1
  have y7 := fun n => (HVQ.out n).facts.2.2.2.1
  have y8 := fun n => (HVQ.out n).facts.2.2.2.2
  cases b
  · by_cases hgt : (xs.length : Int) - (q : Int) < (u : Int)
    · go_wp2_with fail
      go_quiet (fail)
      go_wp2
      exact rv_leave ((HV2.out.below (below_drewN (Below.refl _ _) _)).grown grown_setg H0.out.hgb) (grown_trans (grown_trans HG2.out (grown_below (below_drewN (Below.refl _ _) _))) grown_setg) (HR2.out.below (below_drewN (Below.refl _ _) _)).setBad (Nat.le_refl _) H0.out.hgb.symm H0.out.nF rfl (F' := fun _ => False) (fun _ h => h.elim) ⟨0, 0, empty, []⟩ (kZero _ _) HRE.out _ (.inl rfl)
    · go_wp2_with fail
      go_quiet (fail)
      go_wp2
      exact rv_leave ((HV2.out.below (below_drewN (Below.refl _ _) _)).grown grown_setg H0.out.hgb) (grown_trans (grown_trans HG2.out (grown_below (below_drewN (Below.refl _ _) _))) grown_setg) (HR2.out.below (below_drewN (Below.refl _ _) _)).setBad (Nat.le_refl _) H0.out.hgb.symm H0.out.nF rfl (F' := fun _ => False) (fun _ h => h.elim) ⟨0, 0, empty, []⟩ (kZero _ _) HRE.out _ (.inl rfl)
  · go_wp2_with fail
    go_quiet (fail)
    go_wp2
    exact rv_leave ((HV2.out.below (below_drewN (Below.refl _ _) _)).grown grown_setg H0.out.hgb) (grown_trans (grown_trans HG2.out (grown_below (below_drewN (Below.refl _ _) _))) grown_setg) (HR2.out.below (below_drewN (Below.refl _ _) _)).setBad (Nat.le_refl _) H0.out.hgb.symm H0.out.nF rfl (F' := fun _ => False) (fun _ h => h.elim) ⟨0, 0, empty, []⟩ (kZero _ _) HRE.out _ (.inl rfl)

set_option maxRecDepth 100000 in
set_option maxHeartbeats 4000000 in
theorem rvalue_list {w : World} {g : Nat} {F : Foot} {xs : List UInt8} {p d k : Nat} {c : UInt8} {r : List UInt8} (h : RS w g F xs p false) (hF : ∀ k, F k → k < w.heap.size) (hx : xs.drop p = c :: r) (h1 : c.toNat = 3) (hd : d < 16) (hlen : xs.length ≤ 1000000000)
    (ih : ∀ (w : World) (F : Foot) (p : Nat), RS w g F xs p false → (∀ k, F k → k < w.heap.size) → Calls Try.prog 34 #[.pointer (some ⟨g, 0, none⟩), .int .i64 ((d : Int) + 1)] w (RV w g F xs p k)) :
    Calls Try.prog 34 #[.pointer (some ⟨g, 0, none⟩), .int .i64 d] w (RV w g F xs p (k + 1)) := by
  have HX := Lib.hid hx
  have H0 := Lib.hid (RV0.mk' h hF)
  have hc256 : c.toNat < 256 := c.toNat_lt
  clear h hF hx
  have HC := Lib.hid h1
  have HIH := Lib.hid ih
  have b1 : ((c.toNat : Int) == 1) = false := by simp; omega
  have b2 : ((c.toNat : Int) == 2) = false := by simp; omega
  have b3 : ((c.toNat : Int) == 3) = true := by simp; omega
  have b4 : ((d : Int) == 16) = false := by simp; omega
  have k0 : IntKind.i64.wrap ((d : Int) + 1) = (d : Int) + 1 := IntWalk.i64_in _ (by omega)
  clear h1 ih
  go_enter Try.func34, Try.ntmps34
  go_wp2_with fail
  refine (next_cons H0.out.rs HX.out).mono ?_
  rintro e w1 ⟨rfl, hr1, hx1, hg1⟩
  have HX1 := Lib.hid hx1
  have HR1 := Lib.hid hr1
  have HV1 := Lib.hid (H0.out.vc.grown hg1 H0.out.hgb)
  have HG1 := Lib.hid (grown_trans H0.out.grown hg1)
  clear hx1 hr1 hg1
  go_wp2_with fail
  refine (rnum_calls HR1.out).mono ?_
  rintro e w2 ⟨u, q, b, rfl, hr2, hn2, hu2, hg2⟩
  rw [HX1.out] at hn2
  have HN2 := Lib.hid hn2
  have HR2 := Lib.hid hr2
  have HV2 := Lib.hid (HV1.out.grown hg2 H0.out.hgb)
  have HG2 := Lib.hid (grown_trans HG1.out hg2)
  have HU := Lib.hid hu2
  clear hn2 hr2 hg2 HV1 HG1 HR1
  have HRES : Hid (valM (k + 1) (xs.drop p) = (if b then none else if u ≤ (xs.drop q).length then (listM (valM k) u (xs.drop q)).map fun z => (⟨3, 0, empty, z.1⟩, z.2) else none)) := by show valM (k + 1) (xs.drop p) = _; rw [HX.out]; exact valM_3 HC.out HN2.out
  obtain ⟨⟨e1, e2, e3, e4⟩, e5, e6, e7, e8⟩ := HV2.out.facts
  have hq := HR2.out.le
  have hl63 := HR2.out.len
  have k1 : IntKind.i64.wrap ((xs.length : Int) - (q : Int)) = (xs.length : Int) - (q : Int) := IntWalk.i64_in _ (by omega)
  have k2 : IntKind.u64.wrap ((xs.length : Int) - (q : Int)) = (xs.length : Int) - (q : Int) := by rw [IntKind.wrap_u64]; omega
  obtain ⟨A1, c1, g0, g1, g2, z3, z4, hs⟩ := HR2.out.facts
  have HS := Lib.hid hs
  have HVQ := Lib.hid (fun n => (HV2.out.below (below_drewN (Below.refl _ _) n)).grown (grown_setg (g := g) (o := 2) (u := .bool true)) H0.out.hgb)
  have hdl : Hid ((xs.drop q).length = xs.length - q) := List.length_drop
  clear hs
  cases b
  · by_cases hgt : (xs.length : Int) - (q : Int) < (u : Int)
    · have hres := HRES.out
      rw [if_neg (by decide), if_neg (by rw [hdl.out]; omega)] at hres
      have HRE := Lib.hid hres
      clear hres
      have y1 := fun n => (HVQ.out n).facts.1.1
      have y2 := fun n => (HVQ.out n).facts.1.2.1
      have y3 := fun n => (HVQ.out n).facts.1.2.2.1
      have y4 := fun n => (HVQ.out n).facts.1.2.2.2
      have y5 := fun n => (HVQ.out n).facts.2.1
      have y6 := fun n => (HVQ.out n).facts.2.2.1
      have y7 := fun n => (HVQ.out n).facts.2.2.2.1
      have y8 := fun n => (HVQ.out n).facts.2.2.2.2
      go_wp2_with fail
      go_quiet (fail)
      go_wp2
      exact rv_leave ((HV2.out.below (below_drewN (Below.refl _ _) _)).grown grown_setg H0.out.hgb) (grown_trans (grown_trans HG2.out (grown_below (below_drewN (Below.refl _ _) _))) grown_setg) (HR2.out.below (below_drewN (Below.refl _ _) _)).setBad (Nat.le_refl _) H0.out.hgb.symm H0.out.nF rfl (F' := fun _ => False) (fun _ h => h.elim) ⟨0, 0, empty, []⟩ (kZero _ _) HRE.out _ (.inl rfl)
    · have hres := HRES.out
      rw [if_neg (by decide), if_pos (by rw [hdl.out]; omega)] at hres
      have HRE := Lib.hid hres
      have hu9 : u ≤ 1000000000 := by omega
      have hgd : decide ((xs.length : Int) - (q : Int) < (u : Int)) = false := by simpa using hgt
      clear hres
      go_wp2_with fail
      go_region_held3 (fun w' => w' = w2.drew ∧ w'.cell? ⟨g, 0, none⟩ = some (.slice A1 xs.length c1) ∧ w'.cell? ⟨g, 1, none⟩ = some (.int .i64 q) ∧ w'.cell? ⟨g, 2, none⟩ = some (.bool false)) (first | exact ⟨rfl, g0, g1, g2⟩ | assumption) (fail)
      go_wp2_with fail
      have HB0 : Hid (VC (w2.alloc (.cells #[.int .i64 3, .int .i64 0, .string ⟨#[]⟩, .slice none 0 0] 24)).drew w2.heap.size 3 0 empty (.slice none 0 0)) := (VC.new w2 3 0 ⟨#[]⟩ (.slice none 0 0)).below (below_drew (Below.refl _ _))
      have HB1 : Below w2.heap.size w2 (w2.alloc (.cells #[.int .i64 3, .int .i64 0, .string ⟨#[]⟩, .slice none 0 0] 24)).drew := below_drew (below_box (Below.refl _ _) _)
      have hvw : w.heap.size < w2.heap.size := HV2.out.lt
      have hvg : w2.heap.size ≠ g := by have := H0.out.lt; omega
      have HST : Hid (LR w g w2.heap.size F xs k u q 0 (w2.alloc (.cells #[.int .i64 3, .int .i64 0, .string ⟨#[]⟩, .slice none 0 0] 24)).drew [] q false (.slice none 0 0) (fun _ => False)) :=
        ⟨hvw, HB0.out, HV2.out.below HB1, Own.nil, fun _ h => h.elim, HR2.out.below HB1, grown_trans HG2.out (grown_below HB1), rfl, by rw [if_neg (by decide), Nat.sub_zero]; cases listM (valM k) u (xs.drop q) <;> simp⟩
      clear e1 e2 e3 e4 e5 e6 e7 e8 g0 g1 g2 z3 z4 HB0 HB1 HVQ HV2
      generalize w2.heap.size = v at *
      go_loopw [9] (fun i' wr => ∃ i : Nat, i' = .int .u64 i ∧ i ≤ u ∧ ∃ ys q1 bad rv F', Hid (LR w g v F xs k u q i wr ys q1 bad rv F')) (fun i' _ => u - (intOf i').toNat)
      case atStart => exact ⟨0, rfl, Nat.zero_le _, [], q, false, .slice none 0 0, fun _ => False, HST⟩
      case round =>
        obtain ⟨i, rfl, hi, ys, q1, bad, rv, F', hls⟩ := hrel
        clear HST
        obtain ⟨⟨f1, f2, f3, f4⟩, f5, f6, f7, f8⟩ := hls.out.vc.facts
        obtain ⟨A2, c2, g0, g1, g2, z3, z4, _⟩ := hls.out.rs.facts
        by_cases hend : bad = false ∧ i < u
        · obtain ⟨rfl, hin⟩ := hend
          have kw : IntKind.u64.wrap ((i : Int) + 1) = (i : Int) + 1 := by rw [IntKind.wrap_u64]; omega
          have hC := HIH.out wr.drew F q1 (hls.out.rs.below (below_drew (Below.refl _ _))) (fun k hk => Nat.lt_of_lt_of_le (H0.out.old k hk) hls.out.grown.size)
          have HCL := Lib.hid hC
          clear hC g0 g1 z3 z4
          go_wp2_with fail
          refine wp_region_held_drew (S := fun _ => True) rfl trivial (fun hHeld => ?_)
          refine wpAnyH_take (i := 0) (v := ?_) rfl (by kernel_rfl) (by kernel_rfl) (by kernel_rfl) (fun _ _ _ h => h) (Or.inl ⟨by rfl, ?_⟩) (by assumption) ?_
          rotate_left
          · intro w hSw
            (try dsimp only at hSw)
            go_simp
            (try with_reducible rfl)
          simp only [Act.put, List.setIfInBounds_toArray, List.set_cons_zero, List.set_cons_succ]
          refine wpAnyH_take (i := 2) (v := ?_) rfl (by kernel_rfl) (by kernel_rfl) (by kernel_rfl) (fun _ _ _ h => h) (Or.inl ⟨by rfl, ?_⟩) (by assumption) ?_
          rotate_left
          · intro w hSw
            (try dsimp only at hSw)
            go_simp
            (try with_reducible rfl)
          simp only [Act.put, List.setIfInBounds_toArray, List.set_cons_zero, List.set_cons_succ]
          refine wpAnyH_take (i := 3) (v := ?_) rfl (by kernel_rfl) (by kernel_rfl) (by kernel_rfl) (fun _ _ _ h => h) (Or.inl ⟨by rfl, ?_⟩) (by assumption) ?_
          rotate_left
          · intro w hSw
            (try dsimp only at hSw)
            go_simp
            (try with_reducible rfl)
          simp only [Act.put, List.setIfInBounds_toArray, List.set_cons_zero, List.set_cons_succ]
          refine wpAnyH_take (i := 4) (v := ?_) rfl (by kernel_rfl) (by kernel_rfl) (by kernel_rfl) (fun _ _ _ h => h) (Or.inl ⟨by rfl, ?_⟩) (by assumption) ?_
          rotate_left
          · intro w hSw
            (try dsimp only at hSw)
            go_simp
            (try with_reducible rfl)
          simp only [Act.put, List.setIfInBounds_toArray, List.set_cons_zero, List.set_cons_succ]
          refine wpAnyH_ready (rs := [1, 5]) (by kernel_rfl) (by simp) (AllReadyH.cons rfl (fun K hK => ?_) (AllReadyH.cons rfl (fun K hK => ?_) AllReadyH.nil))
          · go_simp
            refine hK.out _ _ ?_ (fun hHeld => ?_)
            · trivial
            clear hK K
            try simp only [Act.put, List.setIfInBounds_toArray, List.set_cons_zero, List.set_cons_succ]
            refine wpAnyH_ready (rs := [5]) (by kernel_rfl) (by simp) (AllReadyH.cons rfl (fun K hK => ?_) AllReadyH.nil)
            go_simp
            refine HCL.out.mono ?_
            rintro e w3 ⟨hg3, x, cs3, F3, q3, bad3, rfl, hK3, hF3, hrd3, hv3'⟩
            obtain ⟨A3, c3, rfl, _⟩ := kVal_open hK3
            have hv3 := Lib.hid hv3'
            have hV3 := Lib.hid ((hls.out.vc.below (below_drew (Below.refl _ _))).grown hg3 hvg)
            have hS3 := hV3.out.facts.1.2.2.2
            clear hv3'
            go_simp
            refine hK.out _ _ ?_ (fun hHeld => ?_)
            · trivial
            clear hK K
            try simp only [Act.put, List.setIfInBounds_toArray, List.set_cons_zero, List.set_cons_succ]
            refine wpAnyH_ready (rs := [6]) (by kernel_rfl) (by simp) (AllReadyH.cons rfl (fun K hK => ?_) AllReadyH.nil)
            go_simp
            have hS4 := (hV3.out.below (below_box (Below.refl _ _) (.cells #[.int .i64 x.kind, .int .i64 x.n, .string x.s, .slice A3 x.l.length c3] 24))).facts.1.2.2.2
            obtain ⟨o1, o2, o3, o4⟩ := hls.out.own3 H0.out.lt (below_drew (Below.refl _ _)) hg3 hF3 (below_box (Below.refl _ _) (.cells #[.int .i64 x.kind, .int .i64 x.n, .string x.s, .slice A3 x.l.length c3] 24)) hK3
            have hby : (ys.length + 1) * 56 ≤ 140737488355328 := by have := hls.out.len; omega
            refine hK.out _ _ ?_ (fun hHeld => ?_)
            · trivial
            clear hK K
            try simp only [Act.put, List.setIfInBounds_toArray, List.set_cons_zero, List.set_cons_succ]
            refine wpAnyH_ready (rs := [7]) (by kernel_rfl) (by simp) (AllReadyH.cons rfl (fun K hK => ?_) AllReadyH.nil)
            refine step_app1 rfl (.tmp 129) (.tmp 134) _ rfl E_val x _ o1 rfl ⟨w3.heap.size, 0, none⟩ 1 rfl o2 (cell_newN w3 _ _) o3 hby (by decide) o4 ?_
            intro rv' w4 hown' hgrow hat'
            obtain ⟨A4, c4, hrv, _, _⟩ := hown'.form
            subst hrv
            have hV4 : VC w4 v 3 0 empty rv := ⟨(hgrow.block _ (hV3.out.below (below_box (Below.refl _ _) _)).lt (fun e => by have := (hls.out.own.lt _ e.symm).1; omega)).trans (hV3.out.below (below_box (Below.refl _ _) _)).heap⟩
            obtain ⟨⟨j1, j2, j3, j4⟩, j5, j6, j7, j8⟩ := hV4.facts
            have HN4 : Hid (LR w g v F xs k u q (i + 1) (w4.setCell ⟨v, 3, none⟩ (.slice A4 (ys ++ [x]).length c4)) (ys ++ [x]) q3 bad3 (.slice A4 (ys ++ [x]).length c4) (fun k => F' k ∨ F3 k)) := hls.out.next H0.out.lt H0.out.old hin hv3.out (below_drew (Below.refl _ _)) hg3 hF3 hrd3 (below_box (Below.refl _ _) _) hgrow hown'
            have hle4 : (ys ++ [x]).length = ys.length + 1 := by simp
            rw [hle4] at HN4
            refine hK.out _ _ ?_ (fun hHeld => ?_)
            · trivial
            clear hK K
            try simp only [Act.put, List.setIfInBounds_toArray, List.set_cons_zero, List.set_cons_succ]
            refine wpAnyH_ready (rs := [8]) (by kernel_rfl) (by simp) (AllReadyH.cons rfl (fun K hK => ?_) AllReadyH.nil)
            go_simp
            refine hK.out _ _ ?_ (fun hHeld => ?_)
            · trivial
            clear hK K
            try simp only [Act.put, List.setIfInBounds_toArray, List.set_cons_zero, List.set_cons_succ]
            refine wpAnyH_ready (rs := [9]) (by kernel_rfl) (by simp) (AllReadyH.cons rfl (fun K hK => ?_) AllReadyH.nil)
            go_simp
            refine hK.out _ _ ?_ (fun hHeld => ?_)
            · trivial
            clear hK K
            try simp only [Act.put, List.setIfInBounds_toArray, List.set_cons_zero, List.set_cons_succ]
            refine wpAnyH_done (by kernel_rfl) ?_ _
            clear hgrow hown' hat' hV4 j1 j2 j3 j4 j5 j6 j7 j8 hS3 hS4 o1 o2 o3 o4 hV3 hK3 hF3 hrd3 hg3
            go_wp2
            go_roundw
            case rel => exact ⟨i + 1, by go_num, by omega, _, _, _, _, _, HN4⟩
            case measure => simp [intOf]; omega
          · go_simp
            refine HCL.out.mono ?_
            rintro e w3 ⟨hg3, x, cs3, F3, q3, bad3, rfl, hK3, hF3, hrd3, hv3'⟩
            obtain ⟨A3, c3, rfl, _⟩ := kVal_open hK3
            have hv3 := Lib.hid hv3'
            have hV3 := Lib.hid ((hls.out.vc.below (below_drew (Below.refl _ _))).grown hg3 hvg)
            have hS3 := hV3.out.facts.1.2.2.2
            clear hv3'
            go_simp
            refine hK.out _ _ ?_ (fun hHeld => ?_)
            · trivial
            clear hK K
            try simp only [Act.put, List.setIfInBounds_toArray, List.set_cons_zero, List.set_cons_succ]
            refine wpAnyH_ready (rs := [1, 6]) (by kernel_rfl) (by simp) (AllReadyH.cons rfl (fun K hK => ?_) (AllReadyH.cons rfl (fun K hK => ?_) AllReadyH.nil))
            · go_simp
              refine hK.out _ _ ?_ (fun hHeld => ?_)
              · trivial
              clear hK K
              try simp only [Act.put, List.setIfInBounds_toArray, List.set_cons_zero, List.set_cons_succ]
              refine wpAnyH_ready (rs := [6]) (by kernel_rfl) (by simp) (AllReadyH.cons rfl (fun K hK => ?_) AllReadyH.nil)
              go_simp
              have hS4 := (hV3.out.below (below_box (Below.refl _ _) (.cells #[.int .i64 x.kind, .int .i64 x.n, .string x.s, .slice A3 x.l.length c3] 24))).facts.1.2.2.2
              obtain ⟨o1, o2, o3, o4⟩ := hls.out.own3 H0.out.lt (below_drew (Below.refl _ _)) hg3 hF3 (below_box (Below.refl _ _) (.cells #[.int .i64 x.kind, .int .i64 x.n, .string x.s, .slice A3 x.l.length c3] 24)) hK3
              have hby : (ys.length + 1) * 56 ≤ 140737488355328 := by have := hls.out.len; omega
              refine hK.out _ _ ?_ (fun hHeld => ?_)
              · trivial
              clear hK K
              try simp only [Act.put, List.setIfInBounds_toArray, List.set_cons_zero, List.set_cons_succ]
              refine wpAnyH_ready (rs := [7]) (by kernel_rfl) (by simp) (AllReadyH.cons rfl (fun K hK => ?_) AllReadyH.nil)
              refine step_app1 rfl (.tmp 129) (.tmp 134) _ rfl E_val x _ o1 rfl ⟨w3.heap.size, 0, none⟩ 1 rfl o2 (cell_newN w3 _ _) o3 hby (by decide) o4 ?_
              intro rv' w4 hown' hgrow hat'
              obtain ⟨A4, c4, hrv, _, _⟩ := hown'.form
              subst hrv
              have hV4 : VC w4 v 3 0 empty rv := ⟨(hgrow.block _ (hV3.out.below (below_box (Below.refl _ _) _)).lt (fun e => by have := (hls.out.own.lt _ e.symm).1; omega)).trans (hV3.out.below (below_box (Below.refl _ _) _)).heap⟩
              obtain ⟨⟨j1, j2, j3, j4⟩, j5, j6, j7, j8⟩ := hV4.facts
              have HN4 : Hid (LR w g v F xs k u q (i + 1) (w4.setCell ⟨v, 3, none⟩ (.slice A4 (ys ++ [x]).length c4)) (ys ++ [x]) q3 bad3 (.slice A4 (ys ++ [x]).length c4) (fun k => F' k ∨ F3 k)) := hls.out.next H0.out.lt H0.out.old hin hv3.out (below_drew (Below.refl _ _)) hg3 hF3 hrd3 (below_box (Below.refl _ _) _) hgrow hown'
              have hle4 : (ys ++ [x]).length = ys.length + 1 := by simp
              rw [hle4] at HN4
              refine hK.out _ _ ?_ (fun hHeld => ?_)
              · trivial
              clear hK K
              try simp only [Act.put, List.setIfInBounds_toArray, List.set_cons_zero, List.set_cons_succ]
              refine wpAnyH_ready (rs := [8]) (by kernel_rfl) (by simp) (AllReadyH.cons rfl (fun K hK => ?_) AllReadyH.nil)
              go_simp
              refine hK.out _ _ ?_ (fun hHeld => ?_)
              · trivial
              clear hK K
              try simp only [Act.put, List.setIfInBounds_toArray, List.set_cons_zero, List.set_cons_succ]
              refine wpAnyH_ready (rs := [9]) (by kernel_rfl) (by simp) (AllReadyH.cons rfl (fun K hK => ?_) AllReadyH.nil)
              go_simp
              refine hK.out _ _ ?_ (fun hHeld => ?_)
              · trivial
              clear hK K
              try simp only [Act.put, List.setIfInBounds_toArray, List.set_cons_zero, List.set_cons_succ]
              refine wpAnyH_done (by kernel_rfl) ?_ _
              clear hgrow hown' hat' hV4 j1 j2 j3 j4 j5 j6 j7 j8 hS3 hS4 o1 o2 o3 o4 hV3 hK3 hF3 hrd3 hg3
              go_wp2
              go_roundw
              case rel => exact ⟨i + 1, by go_num, by omega, _, _, _, _, _, HN4⟩
              case measure => simp [intOf]; omega
            · go_simp
              have hS4 := (hV3.out.below (below_box (Below.refl _ _) (.cells #[.int .i64 x.kind, .int .i64 x.n, .string x.s, .slice A3 x.l.length c3] 24))).facts.1.2.2.2
              obtain ⟨o1, o2, o3, o4⟩ := hls.out.own3 H0.out.lt (below_drew (Below.refl _ _)) hg3 hF3 (below_box (Below.refl _ _) (.cells #[.int .i64 x.kind, .int .i64 x.n, .string x.s, .slice A3 x.l.length c3] 24)) hK3
              have hby : (ys.length + 1) * 56 ≤ 140737488355328 := by have := hls.out.len; omega
              refine hK.out _ _ ?_ (fun hHeld => ?_)
              · trivial
              clear hK K
              try simp only [Act.put, List.setIfInBounds_toArray, List.set_cons_zero, List.set_cons_succ]
              refine wpAnyH_ready (rs := [1]) (by kernel_rfl) (by simp) (AllReadyH.cons rfl (fun K hK => ?_) AllReadyH.nil)
              go_simp
              refine hK.out _ _ ?_ (fun hHeld => ?_)
              · trivial
              clear hK K
              try simp only [Act.put, List.setIfInBounds_toArray, List.set_cons_zero, List.set_cons_succ]
              refine wpAnyH_ready (rs := [7]) (by kernel_rfl) (by simp) (AllReadyH.cons rfl (fun K hK => ?_) AllReadyH.nil)
              refine step_app1 rfl (.tmp 129) (.tmp 134) _ rfl E_val x _ o1 rfl ⟨w3.heap.size, 0, none⟩ 1 rfl o2 (cell_newN w3 _ _) o3 hby (by decide) o4 ?_
              intro rv' w4 hown' hgrow hat'
              obtain ⟨A4, c4, hrv, _, _⟩ := hown'.form
              subst hrv
              have hV4 : VC w4 v 3 0 empty rv := ⟨(hgrow.block _ (hV3.out.below (below_box (Below.refl _ _) _)).lt (fun e => by have := (hls.out.own.lt _ e.symm).1; omega)).trans (hV3.out.below (below_box (Below.refl _ _) _)).heap⟩
              obtain ⟨⟨j1, j2, j3, j4⟩, j5, j6, j7, j8⟩ := hV4.facts
              have HN4 : Hid (LR w g v F xs k u q (i + 1) (w4.setCell ⟨v, 3, none⟩ (.slice A4 (ys ++ [x]).length c4)) (ys ++ [x]) q3 bad3 (.slice A4 (ys ++ [x]).length c4) (fun k => F' k ∨ F3 k)) := hls.out.next H0.out.lt H0.out.old hin hv3.out (below_drew (Below.refl _ _)) hg3 hF3 hrd3 (below_box (Below.refl _ _) _) hgrow hown'
              have hle4 : (ys ++ [x]).length = ys.length + 1 := by simp
              rw [hle4] at HN4
              refine hK.out _ _ ?_ (fun hHeld => ?_)
              · trivial
              clear hK K
              try simp only [Act.put, List.setIfInBounds_toArray, List.set_cons_zero, List.set_cons_succ]
              refine wpAnyH_ready (rs := [8]) (by kernel_rfl) (by simp) (AllReadyH.cons rfl (fun K hK => ?_) AllReadyH.nil)
              go_simp
              refine hK.out _ _ ?_ (fun hHeld => ?_)
              · trivial
              clear hK K
              try simp only [Act.put, List.setIfInBounds_toArray, List.set_cons_zero, List.set_cons_succ]
              refine wpAnyH_ready (rs := [9]) (by kernel_rfl) (by simp) (AllReadyH.cons rfl (fun K hK => ?_) AllReadyH.nil)
              go_simp
              refine hK.out _ _ ?_ (fun hHeld => ?_)
              · trivial
              clear hK K
              try simp only [Act.put, List.setIfInBounds_toArray, List.set_cons_zero, List.set_cons_succ]
              refine wpAnyH_done (by kernel_rfl) ?_ _
              clear hgrow hown' hat' hV4 j1 j2 j3 j4 j5 j6 j7 j8 hS3 hS4 o1 o2 o3 o4 hV3 hK3 hF3 hrd3 hg3
              go_wp2
              go_roundw
              case rel => exact ⟨i + 1, by go_num, by omega, _, _, _, _, _, HN4⟩
              case measure => simp [intOf]; omega
        · obtain ⟨⟨e1, e2, e3, e4⟩, e5, e6, e7, e8⟩ := hls.out.vc0.facts
          obtain ⟨AR, cp, rfl, hsl⟩ := hls.out.own.sl_all
          have HSL := Lib.hid hsl
          have hend2 : Hid (valM (k + 1) (xs.drop p) = (if bad then none else some (⟨3, 0, empty, ys⟩, xs.drop q1))) := by
            show valM (k + 1) (xs.drop p) = _
            rw [HRE.out, hls.out.eqn]
            cases bad
            · have hiu : i = u := by
                rcases Nat.lt_or_ge i u with h | h
                · exact absurd ⟨rfl, h⟩ hend
                · omega
              rw [if_neg (by decide), if_neg (by decide), hiu, Nat.sub_self]
              show some _ = _
              show some (_, _) = some (_, _)
              simp
            · rfl
          have hFS : Hid (∀ j, (F' j ∨ (Value.slice AR ys.length cp).ownBlock = some j) → w.heap.size ≤ j ∧ j < wr.heap.size ∧ j ≠ w.heap.size) := by
            intro j hj
            rcases hj with hj | hj
            · have := hls.out.foot j hj; omega
            · have := hls.out.own.lt j hj; omega
          have hcs : (i < u ∧ bad = true) ∨ ¬ i < u := by
            rcases Nat.lt_or_ge i u with h | h
            · left
              refine ⟨h, ?_⟩
              cases bad
              · exact absurd ⟨rfl, h⟩ hend
              · rfl
            · right; omega
          clear hend hsl g0 g1 z3 z4
          rcases hcs with ⟨hc1', rfl⟩ | hc1'
          · go_wp2
            exact rv_leave hls.out.vc0 hls.out.grown hls.out.rs (Nat.le_refl _) H0.out.hgb.symm H0.out.nF rfl hFS.out ⟨3, 0, empty, ys⟩ (kL HSL.out) hend2.out _ (.inl rfl)
          · cases bad
            all_goals
              go_wp2
              exact rv_leave hls.out.vc0 hls.out.grown hls.out.rs (Nat.le_refl _) H0.out.hgb.symm H0.out.nF rfl hFS.out ⟨3, 0, empty, ys⟩ (kL HSL.out) hend2.out _ (.inl rfl)
  · have hres := HRES.out
    rw [if_pos rfl] at hres
    have HRE := Lib.hid hres
    clear hres
    have y1 := fun n => (HVQ.out n).facts.1.1
    have y2 := fun n => (HVQ.out n).facts.1.2.1
    have y3 := fun n => (HVQ.out n).facts.1.2.2.1
    have y4 := fun n => (HVQ.out n).facts.1.2.2.2
    have y5 := fun n => (HVQ.out n).facts.2.1
    have y6 := fun n => (HVQ.out n).facts.2.2.1
    have y7 := fun n => (HVQ.out n).facts.2.2.2.1
    have y8 := fun n => (HVQ.out n).facts.2.2.2.2
    go_wp2_with fail
    go_quiet (fail)
    go_wp2
    exact rv_leave ((HV2.out.below (below_drewN (Below.refl _ _) _)).grown grown_setg H0.out.hgb) (grown_trans (grown_trans HG2.out (grown_below (below_drewN (Below.refl _ _) _))) grown_setg) (HR2.out.below (below_drewN (Below.refl _ _) _)).setBad (Nat.le_refl _) H0.out.hgb.symm H0.out.nF rfl (F' := fun _ => False) (fun _ h => h.elim) ⟨0, 0, empty, []⟩ (kZero _ _) HRE.out _ (.inl rfl)

/-- The reference's Value. -/
theorem rvalue_calls {g : Nat} {xs : List UInt8} (hlen : xs.length ≤ 1000000000) : ∀ (k d : Nat), k + d = 16 → ∀ (w : World) (F : Foot) (p : Nat), RS w g F xs p false → (∀ k, F k → k < w.heap.size) →
    Calls Try.prog 34 #[.pointer (some ⟨g, 0, none⟩), .int .i64 d] w (RV w g F xs p k) := by
  intro k
  induction k with
  | zero =>
    intro d hd w F p h hF
    obtain rfl : d = 16 := by omega
    cases hx : xs.drop p with
    | nil => exact rvalue_nil h hF hx
    | cons c r =>
      by_cases h1 : c.toNat = 1
      · exact rvalue_int h hF hx h1
      by_cases h2 : c.toNat = 2
      · exact rvalue_text h hF hx h2
      by_cases h3 : c.toNat = 3
      · exact rvalue_list0 h hF hx h3
      exact rvalue_bad h hF hx h1 h2 h3
  | succ k ih =>
    intro d hd w F p h hF
    cases hx : xs.drop p with
    | nil => exact rvalue_nil h hF hx
    | cons c r =>
      by_cases h1 : c.toNat = 1
      · exact rvalue_int h hF hx h1
      by_cases h2 : c.toNat = 2
      · exact rvalue_text h hF hx h2
      by_cases h3 : c.toNat = 3
      · exact rvalue_list h hF hx h3 (by omega) hlen (fun w F p h hF => ih (d + 1) (by omega) w F p h hF)
      exact rvalue_bad h hF hx h1 h2 h3
end Go.Proofs.Ytpmokmhakdkpdaa.B
