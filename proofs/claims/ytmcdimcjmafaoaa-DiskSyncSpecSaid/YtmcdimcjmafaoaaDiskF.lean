import Derived.Test.YtmcdimcjmafaoaaDiskE
namespace Go.Proofs.Ytmcdimcjmafaoaa.B
set_option linter.unusedVariables false
set_option linter.unusedSimpArgs false
open Go.RowKit

theorem rcheckD_as {d : Dsk} {z : Int} (hz : checkD d = z) {w : World} {cs : List Value} (h : kDsk.K w (Old w) d cs) : Calls Try.prog 16 #[.agg cs.toArray] w (Says (.int .i64 z) w) := by subst hz; exact rcheckD_calls h
theorem runs_cases (d : Dsk) : (d.runs = false ∧ checkD d = 470) ∨ (d.runs = false ∧ checkD d = 0 ∧ d.stop = true) ∨ (d.runs = true ∧ checkD d = 0 ∧ d.stop = false) := by
  rcases checkD_cases d with ⟨hv, hz⟩ | ⟨hv, hz⟩
  · cases hs : d.stop
    · exact .inr (.inr ⟨by unfold Dsk.runs; rw [hv, hs]; rfl, hz, rfl⟩)
    · exact .inr (.inl ⟨by unfold Dsk.runs; rw [hv, hs]; rfl, hz, rfl⟩)
  · exact .inl ⟨by unfold Dsk.runs; rw [hv]; rfl, hz⟩
set_option maxRecDepth 100000 in
set_option maxHeartbeats 1000000 in
theorem rrestart_calls {d : Dsk} {w : World} {cs : List Value} (h : kDsk.K w (Old w) d cs) : Calls Try.prog 18 #[.agg cs.toArray] w (DskR (restartD d) w) := by
  have H := Lib.hid h
  obtain ⟨A, c, A', c', rfl, hs, _, _⟩ := kDsk_open h
  have HS := Lib.hid hs
  clear h hs
  have HB := Lib.hid ((dsk_box w d A A' c c').below (below_box (Below.refl _ _) (.cells #[.slice none 0 0, .slice none 0 0, .int .i64 0, .bool false] 25)))
  have HV := Lib.hid (Blk.new (w.alloc (.cells #[.slice A d.secs.length c, .slice A' d.pend.length c', .int .i64 d.left, .bool d.stop] 25)) 25 [.slice none 0 0, .slice none 0 0, .int .i64 0, .bool false])
  rw [World.size_alloc] at HV
  obtain ⟨⟨f1, f2, f3, f4⟩, _⟩ := HB.out.facts4
  obtain ⟨⟨g1, g2, g3, g4⟩, g5, g6, g7, g8⟩ := HV.out.facts4
  go_enter Try.func18, Try.ntmps18
  go_wp2
  refine bodyPost_ret (results_cell rfl _ _ (w.heap.size + 1) _ _ _ _ rfl (by have h := heap_new (w.alloc (.cells #[.slice A d.secs.length c, .slice A' d.pend.length c', .int .i64 d.left, .bool d.stop] 25)) (.cells #[.slice A d.secs.length c, .slice none 0 0, .int .i64 (-1), .bool false] 25); rwa [World.size_alloc] at h) Try.underlying25 rfl (by rw [info_dsk]; rfl)) rfl ?_
  exact ⟨[.slice A d.secs.length c, .slice none 0 0, .int .i64 (-1), .bool false], rfl, kDsk_mk (d := restartD d) (HS.out.old (below_box (below_box (Below.refl _ _) _) _)) (SL.nil (Nat.zero_le _)) (show I64 (-1) by unfold I64; decide), below_box (below_box (Below.refl _ _) _) _⟩

set_option maxRecDepth 100000 in
set_option maxHeartbeats 2000000 in
theorem rstop_calls {d : Dsk} {n : Int} {w : World} {cs : List Value} (h : kDsk.K w (Old w) d cs) (hn : I64 n) : Calls Try.prog 26 #[.agg cs.toArray, .int .i64 n] w (DskE (stopD d n) (stopE d n) w) := by
  obtain ⟨secs, pend, left, stop⟩ := d
  obtain ⟨d, hd⟩ : ∃ d : Dsk, d = ⟨secs, pend, left, stop⟩ := ⟨_, rfl⟩
  rw [← hd] at h ⊢
  have hst : stop = d.stop := by rw [hd]
  clear hd
  have H := Lib.hid h
  obtain ⟨A, c, A', c', rfl, hs, hp, _⟩ := kDsk_open h
  have HS := Lib.hid hs
  have HP := Lib.hid hp
  have HN := Lib.hid hn
  obtain ⟨n1, n2⟩ := hn
  clear h hs hp
  rcases runs_cases d with ⟨hr, hz⟩ | ⟨hr, hz, hst'⟩ | ⟨hr, hz, hst'⟩
  · have HZ := Lib.hid hz
    have HE : Hid (stopE d n = 470 ∧ stopD d n = zeroD) := by
      have h1 : stopE d n = 470 := by unfold stopE; rw [hr]; rfl
      exact ⟨h1, by unfold stopD; rw [h1]; rfl⟩
    clear hr hz hst
    have HB := Lib.hid ((dsk_box w d A A' c c').below (below_box (Below.refl _ _) (.cells #[.slice none 0 0, .slice none 0 0, .int .i64 0, .bool false] 25)))
    have HV := Lib.hid (Blk.new (w.alloc (.cells #[.slice A d.secs.length c, .slice A' d.pend.length c', .int .i64 d.left, .bool d.stop] 25)) 25 [.slice none 0 0, .slice none 0 0, .int .i64 0, .bool false])
    rw [World.size_alloc] at HV
    have HBW : Below w.heap.size w ((w.alloc (.cells #[.slice A d.secs.length c, .slice A' d.pend.length c', .int .i64 d.left, .bool d.stop] 25)).alloc (.cells #[.slice none 0 0, .slice none 0 0, .int .i64 0, .bool false] 25)) := below_box (below_box (Below.refl _ _) _) _
    obtain ⟨⟨f1, f2, f3, f4⟩, _⟩ := HB.out.facts4
    go_enter Try.func26, Try.ntmps26
    go_wp2_with fail
    refine (rcheckD_as HZ.out (Kd.old H.out HBW)).mono ?_
    rintro e w1 ⟨rfl, hb1⟩
    obtain ⟨⟨e1, e2, e3, e4⟩, e5, e6, e7, e8⟩ := (HB.out.below hb1).facts4
    have e4' := e4
    obtain ⟨⟨g1, g2, g3, g4⟩, g5, g6, g7, g8⟩ := (HV.out.below hb1).facts4
    go_wp2
    rw [HE.out.1, HE.out.2]
    exact dskE_leave rfl (HV.out.below hb1) rfl (kZeroD _ (fun _ => False)) (fun h => h) (below_then HBW hb1) (by omega) rfl rfl
  · have HZ := Lib.hid hz
    have HE : Hid (stopE d n = 470 ∧ stopD d n = zeroD) := by
      have h1 : stopE d n = 470 := by unfold stopE; rw [hr]; rfl
      exact ⟨h1, by unfold stopD; rw [h1]; rfl⟩
    have HB := Lib.hid ((dsk_box w d A A' c c').below (below_box (Below.refl _ _) (.cells #[.slice none 0 0, .slice none 0 0, .int .i64 0, .bool false] 25)))
    have HV := Lib.hid (Blk.new (w.alloc (.cells #[.slice A d.secs.length c, .slice A' d.pend.length c', .int .i64 d.left, .bool d.stop] 25)) 25 [.slice none 0 0, .slice none 0 0, .int .i64 0, .bool false])
    rw [World.size_alloc] at HV
    have HBW : Below w.heap.size w ((w.alloc (.cells #[.slice A d.secs.length c, .slice A' d.pend.length c', .int .i64 d.left, .bool d.stop] 25)).alloc (.cells #[.slice none 0 0, .slice none 0 0, .int .i64 0, .bool false] 25)) := below_box (below_box (Below.refl _ _) _) _
    rw [hst'] at H HB HV HBW ⊢
    clear hr hz hst hst'
    obtain ⟨⟨f1, f2, f3, f4⟩, _⟩ := HB.out.facts4
    go_enter Try.func26, Try.ntmps26
    go_wp2_with fail
    refine (rcheckD_as HZ.out (Kd.old H.out HBW)).mono ?_
    rintro e w1 ⟨rfl, hb1⟩
    obtain ⟨⟨e1, e2, e3, e4⟩, e5, e6, e7, e8⟩ := (HB.out.below hb1).facts4
    have e4' := e4
    obtain ⟨⟨g1, g2, g3, g4⟩, g5, g6, g7, g8⟩ := (HV.out.below hb1).facts4
    go_wp2
    rw [HE.out.1, HE.out.2]
    exact dskE_leave rfl (HV.out.below hb1) rfl (kZeroD _ (fun _ => False)) (fun h => h) (below_then HBW hb1) (by omega) rfl rfl
  · have HZ := Lib.hid hz
    have HE0 : Hid (stopE d n = if n < 0 ∨ 65536 < n then 1 else 0) := by show stopE d n = _; unfold stopE; rw [hr]; rfl
    have HB := Lib.hid ((dsk_box w d A A' c c').below (below_box (Below.refl _ _) (.cells #[.slice none 0 0, .slice none 0 0, .int .i64 0, .bool false] 25)))
    have HV := Lib.hid (Blk.new (w.alloc (.cells #[.slice A d.secs.length c, .slice A' d.pend.length c', .int .i64 d.left, .bool d.stop] 25)) 25 [.slice none 0 0, .slice none 0 0, .int .i64 0, .bool false])
    rw [World.size_alloc] at HV
    have HBW : Below w.heap.size w ((w.alloc (.cells #[.slice A d.secs.length c, .slice A' d.pend.length c', .int .i64 d.left, .bool d.stop] 25)).alloc (.cells #[.slice none 0 0, .slice none 0 0, .int .i64 0, .bool false] 25)) := below_box (below_box (Below.refl _ _) _) _
    have HST := Lib.hid hst'
    rw [hst'] at H HB HV HBW ⊢
    clear hr hz hst hst'
    obtain ⟨⟨f1, f2, f3, f4⟩, _⟩ := HB.out.facts4
    go_enter Try.func26, Try.ntmps26
    by_cases hbad : n < 0 ∨ 65536 < n
    · have HE : Hid (stopE d n = 1 ∧ stopD d n = zeroD) := by
        have h1 : stopE d n = 1 := by rw [HE0.out, if_pos hbad]
        exact ⟨h1, by unfold stopD; rw [h1]; rfl⟩
      rcases hbad with hbad | hbad
      all_goals
        go_wp2_with fail
        refine (rcheckD_as HZ.out (Kd.old H.out HBW)).mono ?_
        rintro e w1 ⟨rfl, hb1⟩
        obtain ⟨⟨e1, e2, e3, e4⟩, e5, e6, e7, e8⟩ := (HB.out.below hb1).facts4
        have e4' := e4
        obtain ⟨⟨g1, g2, g3, g4⟩, g5, g6, g7, g8⟩ := (HV.out.below hb1).facts4
        go_wp2
        rw [HE.out.1, HE.out.2]
        exact dskE_leave rfl (HV.out.below hb1) rfl (kZeroD _ (fun _ => False)) (fun h => h) (below_then HBW hb1) (by omega) rfl rfl
    · have HE : Hid (stopE d n = 0 ∧ stopD d n = { d with left := n }) := by
        have h1 : stopE d n = 0 := by rw [HE0.out, if_neg hbad]
        exact ⟨h1, by unfold stopD; rw [h1]; rfl⟩
      have h1 : ¬ n < 0 := by omega
      have h2 : ¬ 65536 < n := by omega
      clear hbad
      go_wp2_with fail
      refine (rcheckD_as HZ.out (Kd.old H.out HBW)).mono ?_
      rintro e w1 ⟨rfl, hb1⟩
      have HBX := Lib.hid ((HB.out.below hb1).set 2 (.int .i64 n))
      have HVX := Lib.hid ((HV.out.below hb1).other (v := w.heap.size) (i := 2) (u := .int .i64 n) (by omega))
      obtain ⟨⟨e1, e2, e3, e4⟩, e5, e6, e7, e8⟩ := (HB.out.below hb1).facts4
      obtain ⟨⟨x1, x2, x3, x4⟩, _⟩ := HBX.out.facts4
      obtain ⟨⟨g1, g2, g3, g4⟩, g5, g6, g7, g8⟩ := HVX.out.facts4
      go_wp2
      rw [HE.out.1, HE.out.2]
      refine dskE_leave rfl HVX.out rfl (F := Old w) ?_ (fun h => by have h' : w.heap.size + 1 < w.heap.size := h; omega) ((below_then HBW hb1).setCell (Nat.le_refl _) _) (by omega) rfl rfl
      have hf : ∀ k, Old w k → k ≠ w.heap.size := fun k hk e => by subst e; exact Nat.lt_irrefl _ hk
      have hm : ∀ k, Old w k → k < w.heap.size → (w1.setCell ⟨w.heap.size, 2, none⟩ (.int .i64 n)).heap[k]? = w.heap[k]? := fun k hk hl => (Below.heap_setCell _ _ _ _ (hf k hk)).trans ((below_then HBW hb1).block k hl)
      have hsz : w.heap.size ≤ (w1.setCell ⟨w.heap.size, 2, none⟩ (.int .i64 n)).heap.size := by have := (below_then HBW hb1).size; simpa [World.setCell] using this
      have hfin := kDsk_mk (d := { d with left := n }) (HS.out.move hm hsz) (HP.out.move hm hsz) HN.out
      simp only [HST.out] at hfin
      simpa [HST.out] using hfin
end Go.Proofs.Ytmcdimcjmafaoaa.B
