import Derived.Test.YtpmokmhakdkpdaaSameB
import Derived.Test.YtpmokmhakdkpdaaRValueA
import Derived.Deep.RegionHeld3
namespace Go.Proofs.Ytpmokmhakdkpdaa.B
open Go.RowKit

theorem cell_below {w w' : World} {p : Addr} {u : Value} (hb : Below w.heap.size w w') (h : w.cell? p = some u) : w'.cell? p = some u := (hb.cell (World.block_lt_of_cell? w p h)).trans h
set_option maxRecDepth 100000 in
set_option maxHeartbeats 4000000 in
/-- The reference's Same. -/
theorem rsame_calls : ∀ (a b : Val) (w : World) (F F' : Foot) (cs ds : List Value), kVal.K w F a cs → kVal.K w F' b ds → Calls Try.prog 20 #[.agg cs.toArray, .agg ds.toArray] w (SameR a b w) := by
  refine Val.ind (fun a ih => ?_)
  intro b w F F' cs ds ha hb
  obtain ⟨A, c, rfl, _, _, _, hsl⟩ := kVal_open ha
  obtain ⟨A', c', rfl, _, _, _, hsl'⟩ := kVal_open hb
  clear ha hb
  obtain ⟨k, n, s, l⟩ := a
  obtain ⟨k', n', s', l'⟩ := b
  simp only at hsl hsl' ih ⊢
  have hll := Nat.le_trans hsl.le hsl.max
  have hll' := Nat.le_trans hsl'.le hsl'.max
  unfold maxLen at hll hll'
  have HS := Lib.hid hsl
  have HS' := Lib.hid hsl'
  have HIH := Lib.hid ih
  clear hsl hsl' ih
  by_cases h1 : k = k'
  case neg =>
    have hs : Hid (sameM (⟨k, n, s, l⟩ : Val) ⟨k', n', s', l'⟩ = false) := sameM_ne (fun e => h1 (by injection e))
    go_enter Try.func20, Try.ntmps20
    go_wp2
    go_ret
    exact ⟨by rw [hs.out]; rfl, by (with_reducible repeat (first | exact Below.refl _ _ | assumption | refine below_drew ?_ | refine below_drewN ?_ _ | refine below_box ?_ _))⟩
  subst h1
  by_cases h2 : n = n'
  case neg =>
    have hs : Hid (sameM (⟨k, n, s, l⟩ : Val) ⟨k, n', s', l'⟩ = false) := sameM_ne (fun e => h2 (by injection e))
    go_enter Try.func20, Try.ntmps20
    go_wp2
    go_ret
    exact ⟨by rw [hs.out]; rfl, by (with_reducible repeat (first | exact Below.refl _ _ | assumption | refine below_drew ?_ | refine below_drewN ?_ _ | refine below_box ?_ _))⟩
  subst h2
  by_cases h3 : s.toList = s'.toList
  case neg =>
    have hs : Hid (sameM (⟨k, n, s, l⟩ : Val) ⟨k, n, s', l'⟩ = false) := sameM_ne (fun e => h3 (by injection e with _ _ e; rw [e]))
    go_enter Try.func20, Try.ntmps20
    go_wp2
    go_ret
    exact ⟨by rw [hs.out]; rfl, by (with_reducible repeat (first | exact Below.refl _ _ | assumption | refine below_drew ?_ | refine below_drewN ?_ _ | refine below_box ?_ _))⟩
  obtain rfl := toList_inj h3
  clear h3
  by_cases hlen : l.length = l'.length
  · have hs : Hid (sameM (⟨k, n, s, l⟩ : Val) ⟨k, n, s, l'⟩ = sameM l l') := by
      show sameM (⟨k, n, s, l⟩ : Val) ⟨k, n, s, l'⟩ = sameM l l'
      by_cases e : l = l'
      · subst e; rw [sameM_eq rfl, sameM_eq rfl]
      · rw [sameM_ne e, sameM_ne (fun h => e (by injection h))]
    rw [← hlen] at hll' ⊢
    have HL := Lib.hid hlen
    clear hlen
    have HV := Lib.hid ((VC.new w k n s (.slice A l.length c)).below (below_box (Below.refl _ _) (.cells #[.int .i64 k, .int .i64 n, .string s, .slice A' l.length c'] 24)))
    have hV' := VC.new (w.alloc (.cells #[.int .i64 k, .int .i64 n, .string s, .slice A l.length c] 24)) k n s (.slice A' l.length c')
    rw [World.size_alloc] at hV'
    have HV' := Lib.hid hV'
    clear hV'
    go_enter Try.func20, Try.ntmps20
    go_upto_region 4 with fail
    go_loopw [5] (fun i' wr => ∃ i : Nat, i' = .int .i64 i ∧ i ≤ l.length ∧ Hid (l.take i = l'.take i) ∧ Hid (VC wr w.heap.size k n s (.slice A l.length c)) ∧ Hid (VC wr (w.heap.size + 1) k n s (.slice A' l.length c')) ∧ Below w.heap.size w wr) (fun i' _ => l.length - (intOf i').toNat)
    case atStart => exact ⟨0, rfl, Nat.zero_le _, rfl, HV, HV', by (with_reducible repeat (first | exact Below.refl _ _ | assumption | refine below_drew ?_ | refine below_drewN ?_ _ | refine below_box ?_ _))⟩
    case round =>
      obtain ⟨i, rfl, hi, htk, hvc, hvc', hb⟩ := hrel
      clear HV HV'
      obtain ⟨⟨_, _, _, f4⟩, _⟩ := hvc.out.facts
      obtain ⟨⟨_, _, _, f4'⟩, _⟩ := hvc'.out.facts
      by_cases hin : i < l.length
      · have hin2 : i < l'.length := by have := HL.out; omega
        obtain ⟨ad, A1, c1, rfl, g0, g1, g2, g3, hK⟩ := val_at (HS.out.below hb) hin
        obtain ⟨ad', A1', c1', rfl, g0', g1', g2', g3', hK'⟩ := val_at (HS'.out.below hb) hin2
        have HK := Lib.hid hK
        have HK' := Lib.hid hK'
        clear hK hK'
        have hC := HIH.out _ (List.getElem_mem hin) l'[i] wr.drew F F' _ _ (Kd.below HK.out (by (with_reducible repeat (first | exact Below.refl _ _ | assumption | refine below_drew ?_ | refine below_drewN ?_ _ | refine below_box ?_ _)))) (Kd.below HK'.out (by (with_reducible repeat (first | exact Below.refl _ _ | assumption | refine below_drew ?_ | refine below_drewN ?_ _ | refine below_box ?_ _))))
        unfold SameR at hC
        by_cases hxy : l[i] = l'[i]
        · have HXY := Lib.hid hxy
          rw [sameM_eq hxy] at hC
          have HC := Lib.hid hC
          clear hxy hC
          go_wp2_with fail
          refine wp_region_held_drew (S := fun w' => w'.cell? ⟨w.heap.size, 3, none⟩ = some (.slice (some ad) l.length c) ∧ w'.cell? ⟨w.heap.size + 1, 3, none⟩ = some (.slice (some ad') l.length c') ∧ w'.cell? (ad.add (i * 4)) = some (.int .i64 l[i].kind) ∧ w'.cell? ⟨(ad.add (i * 4)).block, (ad.add (i * 4)).off + 1, none⟩ = some (.int .i64 l[i].n) ∧ w'.cell? ⟨(ad.add (i * 4)).block, (ad.add (i * 4)).off + 2, none⟩ = some (.string l[i].s) ∧ w'.cell? ⟨(ad.add (i * 4)).block, (ad.add (i * 4)).off + 3, none⟩ = some (.slice A1 l[i].l.length c1) ∧ w'.cell? (ad'.add (i * 4)) = some (.int .i64 l'[i].kind) ∧ w'.cell? ⟨(ad'.add (i * 4)).block, (ad'.add (i * 4)).off + 1, none⟩ = some (.int .i64 l'[i].n) ∧ w'.cell? ⟨(ad'.add (i * 4)).block, (ad'.add (i * 4)).off + 2, none⟩ = some (.string l'[i].s) ∧ w'.cell? ⟨(ad'.add (i * 4)).block, (ad'.add (i * 4)).off + 3, none⟩ = some (.slice A1' l'[i].l.length c1')) rfl ⟨f4, f4', g0, g1, g2, g3, g0', g1', g2', g3'⟩ (fun hHeld => ?_)
          refine wpAnyH_take (i := 0) (v := ?_) rfl (by kernel_rfl) (by kernel_rfl) (by kernel_rfl) (fun _ _ _ h => h) (Or.inl ⟨by rfl, ?_⟩) (by assumption) ?_
          rotate_left
          · intro w hSw
            (try dsimp only at hSw)
            go_simp
            (try with_reducible rfl)
          simp only [Act.put, List.setIfInBounds_toArray, List.set_cons_zero, List.set_cons_succ]
          refine wpAnyH_take (i := 1) (v := ?_) rfl (by kernel_rfl) (by kernel_rfl) (by kernel_rfl) (fun _ _ _ h => h) (Or.inl ⟨by rfl, ?_⟩) (by assumption) ?_
          rotate_left
          · intro w hSw
            (try dsimp only at hSw)
            go_simp
            (try with_reducible rfl)
          simp only [Act.put, List.setIfInBounds_toArray, List.set_cons_zero, List.set_cons_succ]
          refine wpAnyH_take (i := 2) (v := ?_) rfl (by kernel_rfl) (by kernel_rfl) (by kernel_rfl) (fun _ _ _ h => h) (Or.inl ⟨by rfl, ?_⟩) (by assumption) ?_
          rotate_left
          · intro w hSw
            (try dsimp only at hSw)
            go_simp
            (try with_reducible rfl)
          simp only [Act.put, List.setIfInBounds_toArray, List.set_cons_zero, List.set_cons_succ]
          refine wpAnyH_take (i := 3) (v := ?_) rfl (by kernel_rfl) (by kernel_rfl) (by kernel_rfl) (fun _ _ _ h => h) (Or.inl ⟨by rfl, ?_⟩) (by assumption) ?_
          rotate_left
          · intro w hSw
            (try dsimp only at hSw)
            go_simp
            (try with_reducible rfl)
          simp only [Act.put, List.setIfInBounds_toArray, List.set_cons_zero, List.set_cons_succ]
          refine wpAnyH_take (i := 4) (v := ?_) rfl (by kernel_rfl) (by kernel_rfl) (by kernel_rfl) (fun _ _ _ h => h) (Or.inl ⟨by rfl, ?_⟩) (by assumption) ?_
          rotate_left
          · intro w hSw
            (try dsimp only at hSw)
            go_simp
            (try with_reducible rfl)
          simp only [Act.put, List.setIfInBounds_toArray, List.set_cons_zero, List.set_cons_succ]
          refine wpAnyH_take (i := 5) (v := ?_) rfl (by kernel_rfl) (by kernel_rfl) (by kernel_rfl) (fun _ _ _ h => h) (Or.inl ⟨by rfl, ?_⟩) (by assumption) ?_
          rotate_left
          · intro w hSw
            (try dsimp only at hSw)
            go_simp
            (try with_reducible rfl)
          simp only [Act.put, List.setIfInBounds_toArray, List.set_cons_zero, List.set_cons_succ]
          refine wpAnyH_take (i := 6) (v := ?_) rfl (by kernel_rfl) (by kernel_rfl) (by kernel_rfl) (fun _ _ _ h => h) (Or.inl ⟨by rfl, ?_⟩) (by assumption) ?_
          rotate_left
          · intro w hSw
            (try dsimp only at hSw)
            go_simp
            (try with_reducible rfl)
          simp only [Act.put, List.setIfInBounds_toArray, List.set_cons_zero, List.set_cons_succ]
          refine wpAnyH_take (i := 7) (v := ?_) rfl (by kernel_rfl) (by kernel_rfl) (by kernel_rfl) (fun _ _ _ h => h) (Or.inl ⟨by rfl, ?_⟩) (by assumption) ?_
          rotate_left
          · intro w hSw
            (try dsimp only at hSw)
            go_simp
            (try with_reducible rfl)
          simp only [Act.put, List.setIfInBounds_toArray, List.set_cons_zero, List.set_cons_succ]
          refine wpAnyH_take (i := 8) (v := ?_) rfl (by kernel_rfl) (by kernel_rfl) (by kernel_rfl) (fun _ _ _ h => h) (Or.inl ⟨by rfl, ?_⟩) (by assumption) ?_
          rotate_left
          · intro w hSw
            (try dsimp only at hSw)
            go_simp
            (try with_reducible rfl)
          simp only [Act.put, List.setIfInBounds_toArray, List.set_cons_zero, List.set_cons_succ]
          refine wpAnyH_take (i := 9) (v := ?_) rfl (by kernel_rfl) (by kernel_rfl) (by kernel_rfl) (fun _ _ _ h => h) (Or.inl ⟨by rfl, ?_⟩) (by assumption) ?_
          rotate_left
          · intro w hSw
            (try dsimp only at hSw)
            go_simp
            (try with_reducible rfl)
          simp only [Act.put, List.setIfInBounds_toArray, List.set_cons_zero, List.set_cons_succ]
          refine wpAnyH_ready (rs := [10]) (by kernel_rfl) (by simp) (AllReadyH.cons rfl (fun K hK => ?_) AllReadyH.nil)
          go_simp
          refine HC.out.mono ?_
          rintro e w1 ⟨rfl, hb1⟩
          go_simp
          refine hK.out _ _ ?_ (fun hHeld => ?_)
          · exact ⟨cell_below hb1 hHeld.1, cell_below hb1 hHeld.2.1, cell_below hb1 hHeld.2.2.1, cell_below hb1 hHeld.2.2.2.1, cell_below hb1 hHeld.2.2.2.2.1, cell_below hb1 hHeld.2.2.2.2.2.1, cell_below hb1 hHeld.2.2.2.2.2.2.1, cell_below hb1 hHeld.2.2.2.2.2.2.2.1, cell_below hb1 hHeld.2.2.2.2.2.2.2.2.1, cell_below hb1 hHeld.2.2.2.2.2.2.2.2.2⟩
          clear hK K
          try simp only [Act.put, List.setIfInBounds_toArray, List.set_cons_zero, List.set_cons_succ]
          refine wpAnyH_ready (rs := [11]) (by kernel_rfl) (by simp) (AllReadyH.cons rfl (fun K hK => ?_) AllReadyH.nil)
          go_simp
          refine hK.out _ _ ?_ (fun hHeld => ?_)
          · exact hHeld
          clear hK K
          try simp only [Act.put, List.setIfInBounds_toArray, List.set_cons_zero, List.set_cons_succ]
          refine wpAnyH_done (by kernel_rfl) ?_ _
          have HB1 : Below w.heap.size w w1 := below_then (below_drew hb) hb1
          clear hHeld g0 g1 g2 g3 g0' g1' g2' g3' f4 f4'
          go_wp2
          go_roundw
          case rel => exact ⟨i + 1, by go_num, by omega, by show _ = _; rw [take_snoc l hin, take_snoc l' hin2, htk.out, HXY.out], hvc.out.below (below_then (below_drew (Below.refl _ _)) hb1), hvc'.out.below (below_then (below_drew (Below.refl _ _)) hb1), HB1⟩
          case measure => simp [intOf]; omega
        · rw [sameM_ne hxy] at hC
          have HC := Lib.hid hC
          have hsl : Hid (sameM l l' = false) := sameM_ne (fun e => hxy (by subst e; rfl))
          clear hxy hC
          go_wp2_with fail
          refine wp_region_held_drew (S := fun w' => w'.cell? ⟨w.heap.size, 3, none⟩ = some (.slice (some ad) l.length c) ∧ w'.cell? ⟨w.heap.size + 1, 3, none⟩ = some (.slice (some ad') l.length c') ∧ w'.cell? (ad.add (i * 4)) = some (.int .i64 l[i].kind) ∧ w'.cell? ⟨(ad.add (i * 4)).block, (ad.add (i * 4)).off + 1, none⟩ = some (.int .i64 l[i].n) ∧ w'.cell? ⟨(ad.add (i * 4)).block, (ad.add (i * 4)).off + 2, none⟩ = some (.string l[i].s) ∧ w'.cell? ⟨(ad.add (i * 4)).block, (ad.add (i * 4)).off + 3, none⟩ = some (.slice A1 l[i].l.length c1) ∧ w'.cell? (ad'.add (i * 4)) = some (.int .i64 l'[i].kind) ∧ w'.cell? ⟨(ad'.add (i * 4)).block, (ad'.add (i * 4)).off + 1, none⟩ = some (.int .i64 l'[i].n) ∧ w'.cell? ⟨(ad'.add (i * 4)).block, (ad'.add (i * 4)).off + 2, none⟩ = some (.string l'[i].s) ∧ w'.cell? ⟨(ad'.add (i * 4)).block, (ad'.add (i * 4)).off + 3, none⟩ = some (.slice A1' l'[i].l.length c1')) rfl ⟨f4, f4', g0, g1, g2, g3, g0', g1', g2', g3'⟩ (fun hHeld => ?_)
          refine wpAnyH_take (i := 0) (v := ?_) rfl (by kernel_rfl) (by kernel_rfl) (by kernel_rfl) (fun _ _ _ h => h) (Or.inl ⟨by rfl, ?_⟩) (by assumption) ?_
          rotate_left
          · intro w hSw
            (try dsimp only at hSw)
            go_simp
            (try with_reducible rfl)
          simp only [Act.put, List.setIfInBounds_toArray, List.set_cons_zero, List.set_cons_succ]
          refine wpAnyH_take (i := 1) (v := ?_) rfl (by kernel_rfl) (by kernel_rfl) (by kernel_rfl) (fun _ _ _ h => h) (Or.inl ⟨by rfl, ?_⟩) (by assumption) ?_
          rotate_left
          · intro w hSw
            (try dsimp only at hSw)
            go_simp
            (try with_reducible rfl)
          simp only [Act.put, List.setIfInBounds_toArray, List.set_cons_zero, List.set_cons_succ]
          refine wpAnyH_take (i := 2) (v := ?_) rfl (by kernel_rfl) (by kernel_rfl) (by kernel_rfl) (fun _ _ _ h => h) (Or.inl ⟨by rfl, ?_⟩) (by assumption) ?_
          rotate_left
          · intro w hSw
            (try dsimp only at hSw)
            go_simp
            (try with_reducible rfl)
          simp only [Act.put, List.setIfInBounds_toArray, List.set_cons_zero, List.set_cons_succ]
          refine wpAnyH_take (i := 3) (v := ?_) rfl (by kernel_rfl) (by kernel_rfl) (by kernel_rfl) (fun _ _ _ h => h) (Or.inl ⟨by rfl, ?_⟩) (by assumption) ?_
          rotate_left
          · intro w hSw
            (try dsimp only at hSw)
            go_simp
            (try with_reducible rfl)
          simp only [Act.put, List.setIfInBounds_toArray, List.set_cons_zero, List.set_cons_succ]
          refine wpAnyH_take (i := 4) (v := ?_) rfl (by kernel_rfl) (by kernel_rfl) (by kernel_rfl) (fun _ _ _ h => h) (Or.inl ⟨by rfl, ?_⟩) (by assumption) ?_
          rotate_left
          · intro w hSw
            (try dsimp only at hSw)
            go_simp
            (try with_reducible rfl)
          simp only [Act.put, List.setIfInBounds_toArray, List.set_cons_zero, List.set_cons_succ]
          refine wpAnyH_take (i := 5) (v := ?_) rfl (by kernel_rfl) (by kernel_rfl) (by kernel_rfl) (fun _ _ _ h => h) (Or.inl ⟨by rfl, ?_⟩) (by assumption) ?_
          rotate_left
          · intro w hSw
            (try dsimp only at hSw)
            go_simp
            (try with_reducible rfl)
          simp only [Act.put, List.setIfInBounds_toArray, List.set_cons_zero, List.set_cons_succ]
          refine wpAnyH_take (i := 6) (v := ?_) rfl (by kernel_rfl) (by kernel_rfl) (by kernel_rfl) (fun _ _ _ h => h) (Or.inl ⟨by rfl, ?_⟩) (by assumption) ?_
          rotate_left
          · intro w hSw
            (try dsimp only at hSw)
            go_simp
            (try with_reducible rfl)
          simp only [Act.put, List.setIfInBounds_toArray, List.set_cons_zero, List.set_cons_succ]
          refine wpAnyH_take (i := 7) (v := ?_) rfl (by kernel_rfl) (by kernel_rfl) (by kernel_rfl) (fun _ _ _ h => h) (Or.inl ⟨by rfl, ?_⟩) (by assumption) ?_
          rotate_left
          · intro w hSw
            (try dsimp only at hSw)
            go_simp
            (try with_reducible rfl)
          simp only [Act.put, List.setIfInBounds_toArray, List.set_cons_zero, List.set_cons_succ]
          refine wpAnyH_take (i := 8) (v := ?_) rfl (by kernel_rfl) (by kernel_rfl) (by kernel_rfl) (fun _ _ _ h => h) (Or.inl ⟨by rfl, ?_⟩) (by assumption) ?_
          rotate_left
          · intro w hSw
            (try dsimp only at hSw)
            go_simp
            (try with_reducible rfl)
          simp only [Act.put, List.setIfInBounds_toArray, List.set_cons_zero, List.set_cons_succ]
          refine wpAnyH_take (i := 9) (v := ?_) rfl (by kernel_rfl) (by kernel_rfl) (by kernel_rfl) (fun _ _ _ h => h) (Or.inl ⟨by rfl, ?_⟩) (by assumption) ?_
          rotate_left
          · intro w hSw
            (try dsimp only at hSw)
            go_simp
            (try with_reducible rfl)
          simp only [Act.put, List.setIfInBounds_toArray, List.set_cons_zero, List.set_cons_succ]
          refine wpAnyH_ready (rs := [10]) (by kernel_rfl) (by simp) (AllReadyH.cons rfl (fun K hK => ?_) AllReadyH.nil)
          go_simp
          refine HC.out.mono ?_
          rintro e w1 ⟨rfl, hb1⟩
          go_simp
          refine hK.out _ _ ?_ (fun hHeld => ?_)
          · exact ⟨cell_below hb1 hHeld.1, cell_below hb1 hHeld.2.1, cell_below hb1 hHeld.2.2.1, cell_below hb1 hHeld.2.2.2.1, cell_below hb1 hHeld.2.2.2.2.1, cell_below hb1 hHeld.2.2.2.2.2.1, cell_below hb1 hHeld.2.2.2.2.2.2.1, cell_below hb1 hHeld.2.2.2.2.2.2.2.1, cell_below hb1 hHeld.2.2.2.2.2.2.2.2.1, cell_below hb1 hHeld.2.2.2.2.2.2.2.2.2⟩
          clear hK K
          try simp only [Act.put, List.setIfInBounds_toArray, List.set_cons_zero, List.set_cons_succ]
          refine wpAnyH_ready (rs := [11]) (by kernel_rfl) (by simp) (AllReadyH.cons rfl (fun K hK => ?_) AllReadyH.nil)
          go_simp
          refine hK.out _ _ ?_ (fun hHeld => ?_)
          · exact hHeld
          clear hK K
          try simp only [Act.put, List.setIfInBounds_toArray, List.set_cons_zero, List.set_cons_succ]
          refine wpAnyH_done (by kernel_rfl) ?_ _
          have HB1 : Below w.heap.size w w1 := below_then (below_drew hb) hb1
          clear hHeld g0 g1 g2 g3 g0' g1' g2' g3' f4 f4'
          go_wp2
          go_ret
          exact ⟨by rw [hs.out, hsl.out]; rfl, HB1⟩
      · obtain rfl : i = l.length := by omega
        have hsl : Hid (sameM l l' = true) := sameM_eq (by have := htk.out; rwa [List.take_length, HL.out, List.take_length] at this)
        go_wp2
        go_ret
        exact ⟨by rw [hs.out, hsl.out]; rfl, hb⟩
  · have hs : Hid (sameM (⟨k, n, s, l⟩ : Val) ⟨k, n, s, l'⟩ = false) := sameM_ne (fun e => hlen (by injection e with _ _ _ e; rw [e]))
    go_enter Try.func20, Try.ntmps20
    go_wp2
    go_ret
    exact ⟨by rw [hs.out]; rfl, by (with_reducible repeat (first | exact Below.refl _ _ | assumption | refine below_drew ?_ | refine below_drewN ?_ _ | refine below_box ?_ _))⟩
end Go.Proofs.Ytpmokmhakdkpdaa.B
