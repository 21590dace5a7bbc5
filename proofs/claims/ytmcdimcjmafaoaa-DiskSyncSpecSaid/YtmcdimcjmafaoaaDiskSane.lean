/- law47.sane answers true. -/
import Derived.Test.YtmcdimcjmafaoaaDiskSaneA
import Derived.BigQuiet
namespace Go.Proofs.Ytmcdimcjmafaoaa.B
set_option linter.unusedVariables false
set_option linter.unusedSimpArgs false
open Go.RowKit

theorem double_as (c : UInt8) {n : Nat} (hn : c.toNat = n) {w : World} : Calls Try.prog 27 #[.int .u8 n] w (BytesR (dbl c) 128 w) := by subst hn; exact double_calls
set_option maxRecDepth 100000 in
set_option maxHeartbeats 4000000 in
theorem sane47_calls {w : World} : Calls Try.prog 10 #[] w (Says (.bool true) w) := by
  have hmk := fun w => make129 w
  go_enter Try.func10, Try.ntmps10
  go_wp2_with fail
  refine (new_as rfl sane_e.1 (i64_lit (by decide) (by decide))).mono ?_
  rintro e w1 ⟨cs1, rfl, hK1, hb1⟩
  obtain ⟨A1, n1, c1, B1, m1, d1, l1, s1, rfl, hK1, en1, em1, el1, es1⟩ := kDsk_parts hK1
  clear hK1 en1 em1 el1 es1
  go_wp2_with fail
  refine (new_as rfl sane_e.2.1 (i64_lit (by decide) (by decide))).mono ?_
  rintro e w3 ⟨cs3, rfl, hK3, hb3⟩
  obtain ⟨A3, n3, c3, B3, m3, d3, l3, s3, rfl, hK3, en3, em3, el3, es3⟩ := kDsk_parts hK3
  clear en3 em3 el3 es3
  have HB3 := Lib.hid (below_then (below_box hb1 (.cells #[.slice A1 n1 c1, .slice B1 m1 d1, .int .i64 l1, .bool s1] 25)) hb3)
  obtain ⟨F3, D3⟩ : ∃ F3, Hid (DV (w3.alloc (.cells #[.slice A3 n3 c3, .slice B3 m3 d3, .int .i64 l3, .bool s3] 25)) F3 w3.heap.size qA A3 n3 c3 B3 m3 d3 l3 s3) := ⟨_, DV.new hK3⟩
  have hs7 : SL kU8 ((w3.alloc (.cells #[.slice A3 n3 c3, .slice B3 m3 d3, .int .i64 l3, .bool s3] 25)).alloc (.cells #[.int .u8 7] 5)) (Old ((w3.alloc (.cells #[.slice A3 n3 c3, .slice B3 m3 d3, .int .i64 l3, .bool s3] 25)).alloc (.cells #[.int .u8 7] 5))) (some ⟨w3.heap.size + 1, 0, none⟩) 1 [7] := by
    have h := Blk.new (w3.alloc (.cells #[.slice A3 n3 c3, .slice B3 m3 d3, .int .i64 l3, .bool s3] 25)) 5 (bcells [7])
    rw [World.size_alloc] at h
    exact blk_bytes rfl h (by decide)
  have HS7 := Lib.hid hs7
  have D3a := Lib.hid (D3.out.below (below_box (Below.refl _ _) (.cells #[.int .u8 7] 5)))
  clear hs7 hK3 hb1 hb3
  go_wp2_with fail
  refine (write_as (b := [7]) rfl sane_e.2.2.1 rfl D3a.out.k (i64_lit (by decide) (by decide)) HS7.out).mono ?_
  rintro e w5 ⟨cs5, rfl, hK5, hb5⟩
  obtain ⟨A5, n5, c5, B5, m5, d5, l5, s5, rfl, hK5, en5, em5, el5, es5⟩ := kDsk_parts hK5
  clear en5 em5 el5 es5
  obtain ⟨F5, D5⟩ : ∃ F5, Hid (DV (w5.alloc (.cells #[.slice A5 n5 c5, .slice B5 m5 d5, .int .i64 l5, .bool s5] 25)) F5 w5.heap.size qB A5 n5 c5 B5 m5 d5 l5 s5) := ⟨_, DV.new hK5⟩
  have hx5 := below_box hb5 (.cells #[.slice A5 n5 c5, .slice B5 m5 d5, .int .i64 l5, .bool s5] 25)
  have D3b := Lib.hid (D3a.out.below hx5)
  have HB5 := Lib.hid (below_then (below_box (below_box HB3.out _) _) hx5)
  clear hK5 hb5 hx5 D3 D3a HS7 HB3
  have f := D5.out.facts
  go_wp2_with fail
  refine (read_as sane_e.2.2.2.1 sane_b.1 D5.out.k (i64_lit (by decide) (by decide))).mono ?_
  rintro e w7 ⟨A7, c7, rfl, hs7, hb7⟩
  obtain ⟨ad7, rfl, hc7⟩ := hs7.at_0 (n := 7) sane_b.2.1 rfl
  have HC7 := Lib.hid hc7
  have D5a := Lib.hid (D5.out.below hb7)
  have D3c := Lib.hid (D3b.out.below hb7)
  have HB7 := Lib.hid (below_then HB5.out hb7)
  clear hs7 hc7 hb7 D5 D3b HB5 f
  have f := D3c.out.facts
  go_wp2_with fail
  refine (read_as sane_e.2.2.2.2.1 sane_l.1 D3c.out.k (i64_lit (by decide) (by decide))).mono ?_
  rintro e w9 ⟨A9, c9, rfl, hs9, hb9⟩
  have HC9 := Lib.hid (keepcell hb9 HC7.out)
  have D5b := Lib.hid (D5a.out.below hb9)
  have D3d := Lib.hid (D3c.out.below hb9)
  have HB9 := Lib.hid (below_then HB7.out hb9)
  clear hs9 hb9 D5a D3c HB7 HC7 f
  go_upto_region 6 with fail
  go_cut [12] (fun s12 wx => s12 = .int .i64 1 ∧ Hid (Below w9.heap.size w9 wx))
  case first =>
    have KEEP0 : Hid (∀ w', Below w9.heap.size w9 w' → (fun w' => Below w9.heap.size w9 w' ∧ (w'.cell? ⟨w3.heap.size, 0, none⟩ = some (.slice A3 n3 c3) ∧ w'.cell? ⟨w3.heap.size, 1, none⟩ = some (.slice B3 m3 d3) ∧ w'.cell? ⟨w3.heap.size, 2, none⟩ = some (.int .i64 l3) ∧ w'.cell? ⟨w3.heap.size, 3, none⟩ = some (.bool s3))) w') := fun w' hb => ⟨hb, (D3d.out.below hb).facts⟩
    have KEEP1 := Lib.hid (KEEP0.out _ (below_drew (Below.refl _ _)))
    go_region_held3 (fun w' => Below w9.heap.size w9 w' ∧ (w'.cell? ⟨w3.heap.size, 0, none⟩ = some (.slice A3 n3 c3) ∧ w'.cell? ⟨w3.heap.size, 1, none⟩ = some (.slice B3 m3 d3) ∧ w'.cell? ⟨w3.heap.size, 2, none⟩ = some (.int .i64 l3) ∧ w'.cell? ⟨w3.heap.size, 3, none⟩ = some (.bool s3))) (first | exact KEEP1.out | exact KEEP0.out _ (by repeat (first | exact Below.refl _ _ | assumption | refine below_drew ?_ | refine below_box ?_ _ | refine below_set4 ?_ (by omega) _ _ _ _))) (first | (((with_reducible refine (write_big_calls (w := (w9.alloc (.cells z129.toArray 5)).drew) (m := 129) (Kd.any (D3d.out.below (below_drew (below_box (Below.refl _ _) (.cells z129.toArray 5)))).k) (i64_lit (by decide) (by decide)) sane_r.1 sane_r.2 (by decide) (by decide)).mono ?_); rintro e w11 ⟨cs11, rfl, hK11, hb11⟩; obtain ⟨A11, n11, c11, B11, m11, d11, l11, s11, rfl, _, _, _, _, _⟩ := kDsk_parts hK11; have hbx := below_then (below_drew (below_box (Below.refl _ _) (.cells z129.toArray 5))) hb11; skip)) | (((with_reducible refine (write_big_calls (w := ((w9.alloc (.cells #[.slice none 0 0, .slice none 0 0, .int .i64 0, .bool false] 25)).alloc (.cells z129.toArray 5)).drew) (m := 129) (Kd.any (D3d.out.below (below_drew (below_box (below_box (Below.refl _ _) (.cells #[.slice none 0 0, .slice none 0 0, .int .i64 0, .bool false] 25)) (.cells z129.toArray 5)))).k) (i64_lit (by decide) (by decide)) sane_r.1 sane_r.2 (by decide) (by decide)).mono ?_); rintro e w11 ⟨cs11, rfl, hK11, hb11⟩; obtain ⟨A11, n11, c11, B11, m11, d11, l11, s11, rfl, _, _, _, _, _⟩ := kDsk_parts hK11; have hbx := below_then (below_drew (below_box (below_box (Below.refl _ _) (.cells #[.slice none 0 0, .slice none 0 0, .int .i64 0, .bool false] 25)) (.cells z129.toArray 5))) hb11; obtain ⟨⟨y1, y2, y3, y4⟩, y5, y6, y7, y8⟩ := ((Blk.new w9 25 [.slice none 0 0, .slice none 0 0, .int .i64 0, .bool false]).below (below_then (below_drew (below_box (Below.refl _ _) (.cells z129.toArray 5))) hb11)).facts4)) | (((with_reducible refine (write_big_calls (w := ((w9.alloc (.cells z129.toArray 5)).alloc (.cells #[.slice none 0 0, .slice none 0 0, .int .i64 0, .bool false] 25)).drew) (m := 129) (Kd.any (D3d.out.below (below_drew (below_box (below_box (Below.refl _ _) (.cells z129.toArray 5)) (.cells #[.slice none 0 0, .slice none 0 0, .int .i64 0, .bool false] 25)))).k) (i64_lit (by decide) (by decide)) sane_r.1 sane_r.2 (by decide) (by decide)).mono ?_); rintro e w11 ⟨cs11, rfl, hK11, hb11⟩; obtain ⟨A11, n11, c11, B11, m11, d11, l11, s11, rfl, _, _, _, _, _⟩ := kDsk_parts hK11; have hbx := below_then (below_drew (below_box (below_box (Below.refl _ _) (.cells z129.toArray 5)) (.cells #[.slice none 0 0, .slice none 0 0, .int .i64 0, .bool false] 25))) hb11; have hbl := ((Blk.new (w9.alloc (.cells z129.toArray 5)) 25 [.slice none 0 0, .slice none 0 0, .int .i64 0, .bool false]).below (below_then (below_drew (Below.refl _ _)) hb11)); rw [World.size_alloc] at hbl; obtain ⟨⟨y1, y2, y3, y4⟩, y5, y6, y7, y8⟩ := hbl.facts4)))
    all_goals
      go_wp2
      go_meet
      exact ⟨rfl, And.left (by assumption)⟩
  case rest =>
    obtain ⟨rfl, hcb⟩ := hcut
    have D5c := Lib.hid (D5b.out.below hcb.out)
    have HC10 := Lib.hid (keepcell hcb.out HC9.out)
    have HB10 := Lib.hid (below_then HB9.out hcb.out)
    clear D5b D3d HC9 HB9 hcb
    have f := D5c.out.facts
    go_wp2_with fail
    refine (stop_as rfl sane_e.2.2.2.2.2.1 D5c.out.k (i64_lit (by decide) (by decide))).mono ?_
    rintro e w13 ⟨cs13, rfl, hK13, hb13⟩
    obtain ⟨A13, n13, c13, B13, m13, d13, l13, s13, rfl, hK13, en13, em13, el13, es13⟩ := kDsk_parts hK13
    clear en13 em13 el13 es13
    obtain ⟨F13, D13, hn13⟩ : ∃ F13, Hid (DV (w13.alloc (.cells #[.slice A13 n13 c13, .slice B13 m13 d13, .int .i64 l13, .bool s13] 25)) F13 w13.heap.size qS A13 n13 c13 B13 m13 d13 l13 s13) ∧ ¬ F13 w13.heap.size := ⟨_, DV.new hK13, fun h => Nat.lt_irrefl _ h.2⟩
    have D5d := Lib.hid (D5c.out.below hb13)
    have HC13 := Lib.hid (keepcell hb13 HC10.out)
    have HB13 := Lib.hid (below_then HB10.out hb13)
    have HX13 := Lib.hid (below_box (Below.refl w13.heap.size w13) (.cells #[.slice A13 n13 c13, .slice B13 m13 d13, .int .i64 l13, .bool s13] 25))
    have Hn13 := Lib.hid hn13
    clear hK13 hb13 D5c HC10 HB10 f hn13
    go_upto_region 8 with fail
    go_cut [15] (fun s15 wx => s15 = .int .i64 0 ∧ ∃ F A n c B m d l s, Hid (DV wx F w13.heap.size qT A n c B m d l s) ∧ Hid (Below w13.heap.size w13 wx))
    case first =>
      have f := (D13.out.below (below_drew (Below.refl _ _))).facts
      refine wp_region_held_drew (S := fun _ => True) rfl trivial (fun hHeld => ?_)
      refine wpAnyH_ready (rs := [0, 1]) (by kernel_rfl) (by simp) (AllReadyH.cons rfl (fun K hK => ?_) (AllReadyH.cons rfl (fun K hK => ?_) AllReadyH.nil))
      · go_simp
        refine hK.out _ _ ?_ (fun hHeld => ?_)
        · trivial
        clear hK K
        try simp only [Act.put, List.setIfInBounds_toArray, List.set_cons_zero, List.set_cons_succ]
        refine wpAnyH_ready (rs := [1]) (by kernel_rfl) (by simp) (AllReadyH.cons rfl (fun K hK => ?_) AllReadyH.nil)
        go_simp
        refine (double_as 8 rfl).mono ?_
        rintro e w14 ⟨A14, c14, rfl, hs14, hb14⟩
        go_simp
        refine hK.out _ _ ?_ (fun hHeld => ?_)
        · trivial
        clear hK K
        try simp only [Act.put, List.setIfInBounds_toArray, List.set_cons_zero, List.set_cons_succ]
        refine wpAnyH_ready (rs := [2]) (by kernel_rfl) (by simp) (AllReadyH.cons rfl (fun K hK => ?_) AllReadyH.nil)
        go_simp
        refine (write_as rfl sane_e.2.2.2.2.2.2.1 (by simp [dbl]) (D13.out.below (below_then (below_drew (Below.refl _ _)) hb14)).k (i64_lit (by decide) (by decide)) hs14).mono ?_
        rintro e w15 ⟨cs15, rfl, hK15, hb15⟩
        obtain ⟨A15, n15, c15, B15, m15, d15, l15, s15, rfl, hK15, en15, em15, el15, es15⟩ := kDsk_parts hK15
        clear en15 em15 el15 es15
        go_simp
        refine hK.out _ _ ?_ (fun hHeld => ?_)
        · trivial
        clear hK K
        try simp only [Act.put, List.setIfInBounds_toArray, List.set_cons_zero, List.set_cons_succ]
        have hx15 := below_then (below_drew (Below.refl _ _)) (below_then hb14 hb15)
        have D13e := (D13.out.below hx15)
        obtain ⟨g1, g2, g3, g4⟩ := D13e.facts
        obtain ⟨g5, g6, g7, g8⟩ := D13e.frozen
        refine wpAnyH_take (i := 3) (v := ?_) rfl (by kernel_rfl) (by kernel_rfl) (by kernel_rfl) (fun _ _ _ h => h) (Or.inl ⟨by rfl, ?_⟩) (by assumption) ?_
        rotate_left
        · intro w hSw
          (try dsimp only at hSw)
          go_simp
          (try with_reducible rfl)
        simp only [Act.put, List.setIfInBounds_toArray, List.set_cons_zero, List.set_cons_succ]
        refine wpAnyH_take (i := 4) (v := ?_) rfl (by kernel_rfl) (by kernel_rfl) (by kernel_rfl) (fun _ _ _ h => h) (Or.inl ⟨by rfl, ?_⟩) (by assumption) ?_
        rotate_left
        · intro w hSw
          (try dsimp only at hSw)
          go_simp
          (try with_reducible rfl)
        simp only [Act.put, List.setIfInBounds_toArray, List.set_cons_zero, List.set_cons_succ]
        refine wpAnyH_take (i := 5) (v := ?_) rfl (by kernel_rfl) (by kernel_rfl) (by kernel_rfl) (fun _ _ _ h => h) (Or.inl ⟨by rfl, ?_⟩) (by assumption) ?_
        rotate_left
        · intro w hSw
          (try dsimp only at hSw)
          go_simp
          (try with_reducible rfl)
        simp only [Act.put, List.setIfInBounds_toArray, List.set_cons_zero, List.set_cons_succ]
        refine wpAnyH_ready (rs := [6]) (by kernel_rfl) (by simp) (AllReadyH.cons rfl (fun K hK => ?_) AllReadyH.nil)
        go_simp
        refine hK.out _ _ ?_ (fun hHeld => ?_)
        · trivial
        clear hK K
        try simp only [Act.put, List.setIfInBounds_toArray, List.set_cons_zero, List.set_cons_succ]
        refine wpAnyH_ready (rs := [7]) (by kernel_rfl) (by simp) (AllReadyH.cons rfl (fun K hK => ?_) AllReadyH.nil)
        go_simp
        refine hK.out _ _ ?_ (fun hHeld => ?_)
        · trivial
        clear hK K
        try simp only [Act.put, List.setIfInBounds_toArray, List.set_cons_zero, List.set_cons_succ]
        refine wpAnyH_done (by kernel_rfl) ?_ _
        go_wp2
        go_meet
        exact ⟨rfl, _, _, _, _, _, _, _, _, _, D13e.set hK15 (fun h => Or.elim h (fun h => Hn13.out h.1) (fun h => absurd (D13.out.below (below_then (below_drew (Below.refl _ _)) hb14)).b.lt (Nat.not_lt_of_le h))), below_set4 (below_then HX13.out hx15) (Nat.le_refl _) _ _ _ _⟩
      · go_simp
        refine (double_as 8 rfl).mono ?_
        rintro e w14 ⟨A14, c14, rfl, hs14, hb14⟩
        go_simp
        refine hK.out _ _ ?_ (fun hHeld => ?_)
        · trivial
        clear hK K
        try simp only [Act.put, List.setIfInBounds_toArray, List.set_cons_zero, List.set_cons_succ]
        have f := (D13.out.below (below_then (below_drew (Below.refl _ _)) hb14)).facts
        refine wpAnyH_ready (rs := [0]) (by kernel_rfl) (by simp) (AllReadyH.cons rfl (fun K hK => ?_) AllReadyH.nil)
        go_simp
        refine hK.out _ _ ?_ (fun hHeld => ?_)
        · trivial
        clear hK K
        try simp only [Act.put, List.setIfInBounds_toArray, List.set_cons_zero, List.set_cons_succ]
        refine wpAnyH_ready (rs := [2]) (by kernel_rfl) (by simp) (AllReadyH.cons rfl (fun K hK => ?_) AllReadyH.nil)
        go_simp
        refine (write_as rfl sane_e.2.2.2.2.2.2.1 (by simp [dbl]) (D13.out.below (below_then (below_drew (Below.refl _ _)) hb14)).k (i64_lit (by decide) (by decide)) hs14).mono ?_
        rintro e w15 ⟨cs15, rfl, hK15, hb15⟩
        obtain ⟨A15, n15, c15, B15, m15, d15, l15, s15, rfl, hK15, en15, em15, el15, es15⟩ := kDsk_parts hK15
        clear en15 em15 el15 es15
        go_simp
        refine hK.out _ _ ?_ (fun hHeld => ?_)
        · trivial
        clear hK K
        try simp only [Act.put, List.setIfInBounds_toArray, List.set_cons_zero, List.set_cons_succ]
        have hx15 := below_then (below_drew (Below.refl _ _)) (below_then hb14 hb15)
        have D13e := (D13.out.below hx15)
        obtain ⟨g1, g2, g3, g4⟩ := D13e.facts
        obtain ⟨g5, g6, g7, g8⟩ := D13e.frozen
        refine wpAnyH_take (i := 3) (v := ?_) rfl (by kernel_rfl) (by kernel_rfl) (by kernel_rfl) (fun _ _ _ h => h) (Or.inl ⟨by rfl, ?_⟩) (by assumption) ?_
        rotate_left
        · intro w hSw
          (try dsimp only at hSw)
          go_simp
          (try with_reducible rfl)
        simp only [Act.put, List.setIfInBounds_toArray, List.set_cons_zero, List.set_cons_succ]
        refine wpAnyH_take (i := 4) (v := ?_) rfl (by kernel_rfl) (by kernel_rfl) (by kernel_rfl) (fun _ _ _ h => h) (Or.inl ⟨by rfl, ?_⟩) (by assumption) ?_
        rotate_left
        · intro w hSw
          (try dsimp only at hSw)
          go_simp
          (try with_reducible rfl)
        simp only [Act.put, List.setIfInBounds_toArray, List.set_cons_zero, List.set_cons_succ]
        refine wpAnyH_take (i := 5) (v := ?_) rfl (by kernel_rfl) (by kernel_rfl) (by kernel_rfl) (fun _ _ _ h => h) (Or.inl ⟨by rfl, ?_⟩) (by assumption) ?_
        rotate_left
        · intro w hSw
          (try dsimp only at hSw)
          go_simp
          (try with_reducible rfl)
        simp only [Act.put, List.setIfInBounds_toArray, List.set_cons_zero, List.set_cons_succ]
        refine wpAnyH_ready (rs := [6]) (by kernel_rfl) (by simp) (AllReadyH.cons rfl (fun K hK => ?_) AllReadyH.nil)
        go_simp
        refine hK.out _ _ ?_ (fun hHeld => ?_)
        · trivial
        clear hK K
        try simp only [Act.put, List.setIfInBounds_toArray, List.set_cons_zero, List.set_cons_succ]
        refine wpAnyH_ready (rs := [7]) (by kernel_rfl) (by simp) (AllReadyH.cons rfl (fun K hK => ?_) AllReadyH.nil)
        go_simp
        refine hK.out _ _ ?_ (fun hHeld => ?_)
        · trivial
        clear hK K
        try simp only [Act.put, List.setIfInBounds_toArray, List.set_cons_zero, List.set_cons_succ]
        refine wpAnyH_done (by kernel_rfl) ?_ _
        go_wp2
        go_meet
        exact ⟨rfl, _, _, _, _, _, _, _, _, _, D13e.set hK15 (fun h => Or.elim h (fun h => Hn13.out h.1) (fun h => absurd (D13.out.below (below_then (below_drew (Below.refl _ _)) hb14)).b.lt (Nat.not_lt_of_le h))), below_set4 (below_then HX13.out hx15) (Nat.le_refl _) _ _ _ _⟩
    case rest =>
      obtain ⟨rfl, F15, A15, n15, c15, B15, m15, d15, l15, s15, D15, hcb⟩ := hcut
      have D5e := Lib.hid (D5d.out.below hcb.out)
      have HC15 := Lib.hid (keepcell hcb.out HC13.out)
      have HB15 := Lib.hid (below_then HB13.out hcb.out)
      clear D5d HC13 HB13 D13 HX13 Hn13 hcb
      have f := D15.out.facts
      go_wp2_with fail
      refine (sync_as rfl sane_e.2.2.2.2.2.2.2.1 D15.out.k).mono ?_
      rintro e w16 ⟨cs16, rfl, hK16, hb16⟩
      obtain ⟨A16, n16, c16, B16, m16, d16, l16, s16, rfl, hK16, en16, em16, el16, es16⟩ := kDsk_parts hK16
      have hs16 : s16 = true := es16.trans sane_e.2.2.2.2.2.2.2.2.1
      subst hs16
      clear en16 em16 el16 es16
      have hx16 := below_box hb16 (.cells #[.slice A16 n16 c16, .slice B16 m16 d16, .int .i64 l16, .bool true] 25)
      obtain ⟨F16, D16, hn16⟩ : ∃ F16, Hid (DV (w16.alloc (.cells #[.slice A16 n16 c16, .slice B16 m16 d16, .int .i64 l16, .bool true] 25)) F16 w16.heap.size qX A16 n16 c16 B16 m16 d16 l16 true) ∧ Hid (¬ F16 w16.heap.size) := ⟨_, DV.new hK16, fun h => Nat.lt_irrefl _ h.2⟩
      clear hK16 hx16 D15 f
      have f := D16.out.facts
      go_wp2_with fail
      refine (restart_as rfl D16.out.k).mono ?_
      rintro e w17 ⟨cs17, rfl, hK17, hb17⟩
      obtain ⟨A17, n17, c17, B17, m17, d17, l17, s17, rfl, hK17, en17, em17, el17, es17⟩ := kDsk_parts hK17
      clear en17 em17 el17 es17
      have D16a := Lib.hid (D16.out.below hb17)
      have D17 := Lib.hid (D16a.out.set hK17 (fun h => Or.elim h (fun h => hn16.out h.1) (fun h => absurd D16.out.b.lt (Nat.not_lt_of_le h))))
      have hw17 := below_set4 (w := w16) (below_then (below_box (Below.refl _ _) (.cells #[.slice A16 n16 c16, .slice B16 m16 d16, .int .i64 l16, .bool true] 25)) hb17) (b := w16.heap.size) (Nat.le_refl _) (.slice A17 n17 c17) (.slice B17 m17 d17) (.int .i64 l17) (.bool s17)
      have D5g := Lib.hid (D5e.out.below (below_then hb16 hw17))
      have HC17 := Lib.hid (keepcell (below_then hb16 hw17) HC15.out)
      have HB17 := Lib.hid (below_then HB15.out (below_then hb16 hw17))
      obtain ⟨g1, g2, g3, g4⟩ := D16a.out.facts
      obtain ⟨g5, g6, g7, g8⟩ := D16a.out.frozen
      clear hK17 hb17 hw17 D16 D16a hn16 f hb16 D5e HC15 HB15
      go_upto_region 13 with fail
      generalize ((((w17.setCell ⟨w16.heap.size, 0, none⟩ (.slice A17 n17 c17)).setCell ⟨w16.heap.size, 1, none⟩ (.slice B17 m17 d17)).setCell ⟨w16.heap.size, 2, none⟩ (.int .i64 l17)).setCell ⟨w16.heap.size, 3, none⟩ (.bool s17)) = w18 at D17 D5g HC17 HB17 ⊢
      clear g1 g2 g3 g4 g5 g6 g7 g8
      have f := D17.out.facts
      go_wp2_with fail
      refine (read_as sane_e.2.2.2.2.2.2.2.2.2.1 sane_b.2.2.1 D17.out.k (i64_lit (by decide) (by decide))).mono ?_
      rintro e w19 ⟨A19, c19, rfl, hs19, hb19⟩
      obtain ⟨ad19, rfl, hc19⟩ := hs19.at_0 (n := 7) sane_b.2.2.2.1 rfl
      have HO19 := Lib.hid hc19
      have D17a := Lib.hid (D17.out.below hb19)
      have D5h := Lib.hid (D5g.out.below hb19)
      have HC19 := Lib.hid (keepcell hb19 HC17.out)
      have HB19 := Lib.hid (below_then HB17.out hb19)
      clear f hc19 hs19 hb19 D17 D5g HC17 HB17
      have f := D17a.out.facts
      go_wp2_with fail
      refine (read_as sane_e.2.2.2.2.2.2.2.2.2.2.1 sane_b.2.2.2.2.1 D17a.out.k (i64_lit (by decide) (by decide))).mono ?_
      rintro e w20 ⟨A20, c20, rfl, hs20, hb20⟩
      obtain ⟨ad20, rfl, hc20⟩ := hs20.at_0 (n := 8) sane_b.2.2.2.2.2.1 rfl
      obtain ⟨ad20', e20, hd20⟩ := hs20.at_k (n := 0) (by decide) sane_b.2.2.2.2.2.2.1 rfl
      injection e20 with e20
      subst e20
      have HP20 := Lib.hid hc20
      have HQ20 := Lib.hid hd20
      have D5i := Lib.hid (D5h.out.below hb20)
      have HO20 := Lib.hid (keepcell hb20 HO19.out)
      have HC20 := Lib.hid (keepcell hb20 HC19.out)
      have HB20 := Lib.hid (below_then HB19.out hb20)
      clear f hc20 hd20 hs20 hb20 D17a D5h HC19 HB19 HO19
      have f := D5i.out.facts
      go_wp2_with fail
      refine (restart_as rfl D5i.out.k).mono ?_
      rintro e w21 ⟨cs21, rfl, hK21, hb21⟩
      obtain ⟨A21, n21, c21, B21, m21, d21, l21, s21, rfl, hK21, en21, em21, el21, es21⟩ := kDsk_parts hK21
      have HK21 := Lib.hid hK21
      have HB21 := Lib.hid (below_then HB20.out hb21)
      have HO21 := Lib.hid (keepcell hb21 HO20.out)
      have HC21 := Lib.hid (keepcell hb21 HC20.out)
      have HP21 := Lib.hid (keepcell hb21 HP20.out)
      have HQ21 := Lib.hid (keepcell hb21 HQ20.out)
      clear f en21 em21 el21 es21 hK21 hb21 HB20 HO20 HC20 HP20 HQ20 D5i
      go_wp2_with fail
      refine (read_as sane_e.2.2.2.2.2.2.2.2.2.2.2.1 sane_b.2.2.2.2.2.2.2.1 HK21.out (i64_lit (by decide) (by decide))).mono ?_
      rintro e w22 ⟨A22, c22, rfl, hs22, hb22⟩
      obtain ⟨ad22, rfl, hc22⟩ := hs22.at_0 (n := 0) sane_b.2.2.2.2.2.2.2.2 rfl
      have o22 := keepcell hb22 HO21.out
      have c22' := keepcell hb22 HC21.out
      have p22 := keepcell hb22 HP21.out
      have q22 := keepcell hb22 HQ21.out
      have HB22 := Lib.hid (below_then HB21.out hb22)
      clear hs22 hb22 HB21 HO21 HC21 HP21 HQ21 HK21
      go_wp2_with fail
      refine (checkD_as sane_e.2.2.2.2.2.2.2.2.2.2.2.2.1 (Kd.any (kZeroD _ (fun _ => False)))).mono ?_
      rintro e w23 ⟨rfl, hb23⟩
      have HB23 := Lib.hid (below_then HB22.out hb23)
      clear o22 c22' p22 q22 hc22 hb23 HB22
      go_wp2_with fail
      refine (restart_as rfl (kZeroD _ (fun _ => False))).mono ?_
      rintro e w24 ⟨cs24, rfl, hK24, hb24⟩
      obtain ⟨A24, n24, c24, B24, m24, d24, l24, s24, rfl, hK24, en24, em24, el24, es24⟩ := kDsk_parts hK24
      have hl24 : l24 = -1 := el24.trans sane_e.2.2.2.2.2.2.2.2.2.2.2.2.2
      subst hl24
      clear en24 em24 el24 es24 hK24
      have hfd : (Instr.field 25 (.agg #[.slice A24 n24 c24, .slice B24 m24 d24, .int .i64 (-1), .bool s24]) 2).run Try.prog w24 = .ok (.int .i64 (-1)) w24 := by kernel_rfl
      go_wp2
      go_ret
      exact Says.of rfl (below_then HB23.out hb24)
end Go.Proofs.Ytmcdimcjmafaoaa.B
