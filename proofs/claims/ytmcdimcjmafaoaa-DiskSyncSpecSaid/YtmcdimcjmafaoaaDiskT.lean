import Derived.Test.YtmcdimcjmafaoaaDiskS
namespace Go.Proofs.Ytmcdimcjmafaoaa.B
set_option linter.unusedVariables false
set_option linter.unusedSimpArgs false
open Go.RowKit

theorem row_drop64 {w : World} {F : Foot} {a : Addr} {c : Nat} {xs : List UInt8} (h : SL kU8 w F (some a) c xs) (hl : 64 ≤ xs.length) (hc : ¬ c = 64) : Row kU8 w F (some ⟨a.block, a.off + 64, none⟩) (xs.drop 64) := by
  have h1 := (h.drop hl).row
  rw [if_neg hc] at h1
  have e : (some a).map (·.add (64 * kU8.sz)) = some ⟨a.block, a.off + 64, none⟩ := by
    show some (a.add 64) = _
    unfold Addr.add
    rw [if_neg (by decide)]
  rw [e] at h1
  exact h1
set_option maxRecDepth 100000 in
set_option maxHeartbeats 1000000 in
theorem rsync_idle {d : Dsk} {w : World} {cs : List Value} (h : kDsk.K w (Old w) d cs) (hr0 : d.runs = false) : Calls Try.prog 24 #[.agg cs.toArray] w (DskE (syncD d) (syncE d) w) := by
  have H := Lib.hid h
  obtain ⟨A, c, A', c', rfl, hs, hpe, hl⟩ := kDsk_open h
  have HS := Lib.hid hs
  have HP := Lib.hid hpe
  have HL := Lib.hid hl
  have hsm := Nat.le_trans hs.le hs.max
  have hpm := Nat.le_trans hpe.le hpe.max
  unfold maxLen at hsm hpm
  clear h hs hpe hl
  have HRC := runs_cases d
  obtain ⟨secs, pend, left, stop⟩ := d
  simp only at hsm hpm HS HP HL H HRC ⊢
  have HB := Lib.hid ((dsk_box w ⟨secs, pend, left, stop⟩ A A' c c').below (below_box (Below.refl _ _) (.cells #[.slice none 0 0, .slice none 0 0, .int .i64 0, .bool false] 25)))
  have HV := Lib.hid (Blk.new (w.alloc (.cells #[.slice A secs.length c, .slice A' pend.length c', .int .i64 left, .bool stop] 25)) 25 [.slice none 0 0, .slice none 0 0, .int .i64 0, .bool false])
  rw [World.size_alloc] at HV
  have HBW : Below w.heap.size w ((w.alloc (.cells #[.slice A secs.length c, .slice A' pend.length c', .int .i64 left, .bool stop] 25)).alloc (.cells #[.slice none 0 0, .slice none 0 0, .int .i64 0, .bool false] 25)) := below_box (below_box (Below.refl _ _) _) _
  simp only at HB
  obtain ⟨⟨f1, f2, f3, f4⟩, _⟩ := HB.out.facts4
  rcases HRC with ⟨hr, hz⟩ | ⟨hr, hz, hst'⟩ | ⟨hr, hz, hst'⟩
  · have HZ := Lib.hid hz
    have HE := Lib.hid (sync_no (d := ⟨secs, pend, left, stop⟩) hr)
    clear hr hz
    go_enter Try.func24, Try.ntmps24
    go_wp2_with fail
    refine (rcheckD_as HZ.out (Kd.old H.out HBW)).mono ?_
    rintro e w1 ⟨rfl, hb1⟩
    obtain ⟨⟨e1, e2, e3, e4⟩, e5, e6, e7, e8⟩ := (HB.out.below hb1).facts4
    obtain ⟨⟨g1, g2, g3, g4⟩, g5, g6, g7, g8⟩ := (HV.out.below hb1).facts4
    go_wp2
    rw [HE.out.1, HE.out.2]
    exact dskE_leave rfl (HV.out.below hb1) rfl (kZeroD _ (fun _ => False)) (fun h => h) (below_then HBW hb1) (by omega) rfl rfl
  · have HZ := Lib.hid hz
    have HE := Lib.hid (sync_no (d := ⟨secs, pend, left, stop⟩) hr)
    subst hst'
    clear hr hz
    go_enter Try.func24, Try.ntmps24
    go_wp2_with fail
    refine (rcheckD_as HZ.out (Kd.old H.out HBW)).mono ?_
    rintro e w1 ⟨rfl, hb1⟩
    obtain ⟨⟨e1, e2, e3, e4⟩, e5, e6, e7, e8⟩ := (HB.out.below hb1).facts4
    obtain ⟨⟨g1, g2, g3, g4⟩, g5, g6, g7, g8⟩ := (HV.out.below hb1).facts4
    go_wp2
    rw [HE.out.1, HE.out.2]
    exact dskE_leave rfl (HV.out.below hb1) rfl (kZeroD _ (fun _ => False)) (fun h => h) (below_then HBW hb1) (by omega) rfl rfl
  · rw [hr] at hr0; cases hr0
set_option maxRecDepth 100000 in
set_option maxHeartbeats 3000000 in
theorem rsync_torn {secs : List (List UInt8)} {pend : List Wr} {m : Nat} {w : World} {cs : List Value} (h : kDsk.K w (Old w) ⟨secs, pend, (m : Int), false⟩ cs) (hr : (Dsk.mk secs pend (m : Int) false).runs = true) (hm : m < pend.length) :
    Calls Try.prog 24 #[.agg cs.toArray] w (DskE (syncD ⟨secs, pend, (m : Int), false⟩) (syncE ⟨secs, pend, (m : Int), false⟩) w) := by
  have H := Lib.hid h
  obtain ⟨A, c, A', c', rfl, hs, hpe, hl⟩ := kDsk_open h
  have HS := Lib.hid hs
  have HP := Lib.hid hpe
  have HL := Lib.hid hl
  have hsm := Nat.le_trans hs.le hs.max
  have hpm := Nat.le_trans hpe.le hpe.max
  unfold maxLen at hsm hpm
  clear h hs hpe hl
  simp only at hsm hpm HS HP HL H ⊢
  have HB := Lib.hid ((dsk_box w ⟨secs, pend, (m : Int), false⟩ A A' c c').below (below_box (Below.refl _ _) (.cells #[.slice none 0 0, .slice none 0 0, .int .i64 0, .bool false] 25)))
  have HV := Lib.hid (Blk.new (w.alloc (.cells #[.slice A secs.length c, .slice A' pend.length c', .int .i64 (m : Int), .bool false] 25)) 25 [.slice none 0 0, .slice none 0 0, .int .i64 0, .bool false])
  rw [World.size_alloc] at HV
  have HBW : Below w.heap.size w ((w.alloc (.cells #[.slice A secs.length c, .slice A' pend.length c', .int .i64 (m : Int), .bool false] 25)).alloc (.cells #[.slice none 0 0, .slice none 0 0, .int .i64 0, .bool false] 25)) := below_box (below_box (Below.refl _ _) _) _
  simp only at HB
  obtain ⟨⟨f1, f2, f3, f4⟩, _⟩ := HB.out.facts4
  have HZ : Hid (checkD ⟨secs, pend, (m : Int), false⟩ = 0) := checkD_ok (runs_facts hr).1
  have HRF := Lib.hid (valid_facts (runs_facts hr).1)
  have HWR := Lib.hid (valid_wr (runs_facts hr).1)
  have HSE := Lib.hid (valid_sec (runs_facts hr).1)
  have HR := Lib.hid hr
  have hrf := HRF.out
  simp only at hrf
  obtain ⟨r1, r2, r3, r4, r5⟩ := hrf
  clear hr
  have HST : Hid ((Dsk.mk secs pend (m : Int) false).stops = true) := (stops_eq _ _ _ _).2 ⟨by omega, by omega⟩
  have HE := Lib.hid (sync_torn HR.out HST.out)
  have hmi : (m : Int) < (pend.length : Int) := by omega
  go_enter Try.func24, Try.ntmps24
  go_wp2_with fail
  refine (rcheckD_as HZ.out (Kd.old H.out HBW)).mono ?_
  rintro e w1 ⟨rfl, hb1⟩
  obtain ⟨⟨e1, e2, e3, e4⟩, e5, e6, e7, e8⟩ := (HB.out.below hb1).facts4
  obtain ⟨⟨g1, g2, g3, g4⟩, g5, g6, g7, g8⟩ := (HV.out.below hb1).facts4
  have HB1 := Lib.hid (HB.out.below hb1)
  have HV1 := Lib.hid (HV.out.below hb1)
  have HBW1 := Lib.hid (below_then HBW hb1)
  have hs1 : w.heap.size + 2 ≤ w1.heap.size := by have a1 := hb1.size; rw [World.size_alloc, World.size_alloc] at a1; omega
  have HS1 := Lib.hid HS.out
  have KEEP0 : Hid (∀ w', Below w.heap.size w w' → Blk w' w.heap.size 25 [.slice A secs.length c, .slice A' pend.length c', .int .i64 (m : Int), .bool false] → (fun w' : World => Below w.heap.size w w' ∧ (w'.cell? ⟨w.heap.size, 0, none⟩ = some (.slice A secs.length c) ∧ w'.cell? ⟨w.heap.size, 1, none⟩ = some (.slice A' pend.length c') ∧ w'.cell? ⟨w.heap.size, 2, none⟩ = some (.int .i64 (m : Int)) ∧ w'.cell? ⟨w.heap.size, 3, none⟩ = some (.bool false))) w') := fun w' hb hbk => ⟨hb, hbk.facts4.1⟩
  have KEEP1 := Lib.hid (KEEP0.out _ (below_then HBW1.out (below_drew (Below.refl _ _))) (HB1.out.below (below_drew (Below.refl _ _))))
  have KEEPA : Hid (∀ w' o, (fun w' : World => Below w.heap.size w w' ∧ (w'.cell? ⟨w.heap.size, 0, none⟩ = some (.slice A secs.length c) ∧ w'.cell? ⟨w.heap.size, 1, none⟩ = some (.slice A' pend.length c') ∧ w'.cell? ⟨w.heap.size, 2, none⟩ = some (.int .i64 (m : Int)) ∧ w'.cell? ⟨w.heap.size, 3, none⟩ = some (.bool false))) w' → (fun w' : World => Below w.heap.size w w' ∧ (w'.cell? ⟨w.heap.size, 0, none⟩ = some (.slice A secs.length c) ∧ w'.cell? ⟨w.heap.size, 1, none⟩ = some (.slice A' pend.length c') ∧ w'.cell? ⟨w.heap.size, 2, none⟩ = some (.int .i64 (m : Int)) ∧ w'.cell? ⟨w.heap.size, 3, none⟩ = some (.bool false))) (w'.alloc o)) := fun w' o h => by
    have hb := below_box (Below.refl w'.heap.size w') o
    exact ⟨below_then h.1 hb, keepcell hb h.2.1, keepcell hb h.2.2.1, keepcell hb h.2.2.2.1, keepcell hb h.2.2.2.2⟩
  have HBY : Hid ((([] : List (List UInt8)).length + secs.length) * 24 ≤ 140737488355328) := by show _ ≤ _; simp only [List.length_nil]; omega
  have z1 : Hid (w.heap.size + 2 ≤ (w1.alloc (.cells #[] 35)).drew.heap.size) := by show _ ≤ (w1.alloc (.cells #[] 35)).heap.size; rw [World.size_alloc]; omega
  have z2 : Hid (w.heap.size + 2 ≤ ((w1.alloc (.cells #[] 35)).alloc (.cells #[.slice none 0 0, .slice none 0 0, .int .i64 0, .bool false] 25)).drew.heap.size) := by show _ ≤ ((w1.alloc (.cells #[] 35)).alloc (.cells #[.slice none 0 0, .slice none 0 0, .int .i64 0, .bool false] 25)).heap.size; rw [World.size_alloc, World.size_alloc]; omega
  have z3 : Hid (w.heap.size + 2 ≤ ((w1.alloc (.cells #[.slice none 0 0, .slice none 0 0, .int .i64 0, .bool false] 25)).alloc (.cells #[] 35)).drew.heap.size) := by show _ ≤ ((w1.alloc (.cells #[.slice none 0 0, .slice none 0 0, .int .i64 0, .bool false] 25)).alloc (.cells #[] 35)).heap.size; rw [World.size_alloc, World.size_alloc]; omega
  have k1 := Blk.new w1 35 []
  have k3 := Blk.new (w1.alloc (.cells #[.slice none 0 0, .slice none 0 0, .int .i64 0, .bool false] 25)) 35 []
  rw [World.size_alloc] at k3
  have OA : Hid (Own kBytes 35 (w1.alloc (.cells #[] 35)).drew (w.heap.size + 2) (Old w) (.slice (some ⟨w1.heap.size, 0, none⟩) 0 0) []) := own_empty_at k1 hs1 (fun h => by have h' : w1.heap.size < w.heap.size := h; omega)
  have OB : Hid (Own kBytes 35 ((w1.alloc (.cells #[] 35)).alloc (.cells #[.slice none 0 0, .slice none 0 0, .int .i64 0, .bool false] 25)).drew (w.heap.size + 2) (Old w) (.slice (some ⟨w1.heap.size, 0, none⟩) 0 0) []) := own_empty_at (k1.below (below_drew (below_box (Below.refl _ _) _))) hs1 (fun h => by have h' : w1.heap.size < w.heap.size := h; omega)
  have OC : Hid (Own kBytes 35 ((w1.alloc (.cells #[.slice none 0 0, .slice none 0 0, .int .i64 0, .bool false] 25)).alloc (.cells #[] 35)).drew (w.heap.size + 2) (Old w) (.slice (some ⟨w1.heap.size + 1, 0, none⟩) 0 0) []) := own_empty_at k3 (by omega) (fun h => by have h' : w1.heap.size + 1 < w.heap.size := h; omega)
  have KEEPG : Hid (∀ w' w'' row, (fun w' : World => Below w.heap.size w w' ∧ (w'.cell? ⟨w.heap.size, 0, none⟩ = some (.slice A secs.length c) ∧ w'.cell? ⟨w.heap.size, 1, none⟩ = some (.slice A' pend.length c') ∧ w'.cell? ⟨w.heap.size, 2, none⟩ = some (.int .i64 (m : Int)) ∧ w'.cell? ⟨w.heap.size, 3, none⟩ = some (.bool false))) w' → w'.grownBy w'' row → (∀ k, row = some k → w.heap.size + 2 ≤ k) → w.heap.size + 2 ≤ w'.heap.size → (fun w' : World => Below w.heap.size w w' ∧ (w'.cell? ⟨w.heap.size, 0, none⟩ = some (.slice A secs.length c) ∧ w'.cell? ⟨w.heap.size, 1, none⟩ = some (.slice A' pend.length c') ∧ w'.cell? ⟨w.heap.size, 2, none⟩ = some (.int .i64 (m : Int)) ∧ w'.cell? ⟨w.heap.size, 3, none⟩ = some (.bool false))) w'') := fun w' w'' row h hg hr hz => by
    have hb : Below (w.heap.size + 2) w' w'' := (Below.refl _ _).grown hg hz hr
    have hc : ∀ i u, w'.cell? ⟨w.heap.size, i, none⟩ = some u → w''.cell? ⟨w.heap.size, i, none⟩ = some u := fun i u hu => (hb.cell (by show w.heap.size < w.heap.size + 2; omega)).trans hu
    exact ⟨h.1.grown hg (by omega) (fun k hk => by have := hr k hk; omega), hc _ _ h.2.1, hc _ _ h.2.2.1, hc _ _ h.2.2.2.1, hc _ _ h.2.2.2.2⟩
  have SA : Hid (SL kBytes (w1.alloc (.cells #[] 35)).drew (Old w) A c secs) := HS.out.below (below_then HBW1.out (below_drew (below_box (Below.refl _ _) _)))
  have SB : Hid (SL kBytes ((w1.alloc (.cells #[] 35)).alloc (.cells #[.slice none 0 0, .slice none 0 0, .int .i64 0, .bool false] 25)).drew (Old w) A c secs) := HS.out.below (below_then HBW1.out (below_drew (below_box (below_box (Below.refl _ _) _) _)))
  have SC : Hid (SL kBytes ((w1.alloc (.cells #[.slice none 0 0, .slice none 0 0, .int .i64 0, .bool false] 25)).alloc (.cells #[] 35)).drew (Old w) A c secs) := HS.out.below (below_then HBW1.out (below_drew (below_box (below_box (Below.refl _ _) _) _)))
  have FA : Hid (∀ k, Old w k → k < (w1.alloc (.cells #[] 35)).drew.heap.size) := fun k hk => by have h' : k < w.heap.size := hk; have := z1.out; omega
  have FB : Hid (∀ k, Old w k → k < ((w1.alloc (.cells #[] 35)).alloc (.cells #[.slice none 0 0, .slice none 0 0, .int .i64 0, .bool false] 25)).drew.heap.size) := fun k hk => by have h' : k < w.heap.size := hk; have := z2.out; omega
  have FC : Hid (∀ k, Old w k → k < ((w1.alloc (.cells #[.slice none 0 0, .slice none 0 0, .int .i64 0, .bool false] 25)).alloc (.cells #[] 35)).drew.heap.size) := fun k hk => by have h' : k < w.heap.size := hk; have := z3.out; omega
  have blkB := Lib.hid HB1.out
  have TA : Hid ((fun w' : World => Below w.heap.size w w' ∧ (w'.cell? ⟨w.heap.size, 0, none⟩ = some (.slice A secs.length c) ∧ w'.cell? ⟨w.heap.size, 1, none⟩ = some (.slice A' pend.length c') ∧ w'.cell? ⟨w.heap.size, 2, none⟩ = some (.int .i64 (m : Int)) ∧ w'.cell? ⟨w.heap.size, 3, none⟩ = some (.bool false))) (w1.alloc (.cells #[] 35)).drew) := KEEP0.out _ (below_then HBW1.out (below_drew (below_box (Below.refl _ _) _))) (HB1.out.below (below_drew (below_box (Below.refl _ _) _)))
  have TB : Hid ((fun w' : World => Below w.heap.size w w' ∧ (w'.cell? ⟨w.heap.size, 0, none⟩ = some (.slice A secs.length c) ∧ w'.cell? ⟨w.heap.size, 1, none⟩ = some (.slice A' pend.length c') ∧ w'.cell? ⟨w.heap.size, 2, none⟩ = some (.int .i64 (m : Int)) ∧ w'.cell? ⟨w.heap.size, 3, none⟩ = some (.bool false))) ((w1.alloc (.cells #[] 35)).alloc (.cells #[.slice none 0 0, .slice none 0 0, .int .i64 0, .bool false] 25)).drew) := KEEP0.out _ (below_then HBW1.out (below_drew (below_box (below_box (Below.refl _ _) _) _))) (HB1.out.below (below_drew (below_box (below_box (Below.refl _ _) _) _)))
  have TC : Hid ((fun w' : World => Below w.heap.size w w' ∧ (w'.cell? ⟨w.heap.size, 0, none⟩ = some (.slice A secs.length c) ∧ w'.cell? ⟨w.heap.size, 1, none⟩ = some (.slice A' pend.length c') ∧ w'.cell? ⟨w.heap.size, 2, none⟩ = some (.int .i64 (m : Int)) ∧ w'.cell? ⟨w.heap.size, 3, none⟩ = some (.bool false))) ((w1.alloc (.cells #[.slice none 0 0, .slice none 0 0, .int .i64 0, .bool false] 25)).alloc (.cells #[] 35)).drew) := KEEP0.out _ (below_then HBW1.out (below_drew (below_box (below_box (Below.refl _ _) _) _))) (HB1.out.below (below_drew (below_box (below_box (Below.refl _ _) _) _)))
  have XA : Hid (Blk (w1.alloc (.cells #[] 35)).drew w.heap.size 25 [.slice A secs.length c, .slice A' pend.length c', .int .i64 (m : Int), .bool false] ∧ Blk (w1.alloc (.cells #[] 35)).drew (w.heap.size + 1) 25 [.slice none 0 0, .slice none 0 0, .int .i64 0, .bool false]) := ⟨HB1.out.below (below_drew (below_box (Below.refl _ _) _)), HV1.out.below (below_drew (below_box (Below.refl _ _) _))⟩
  have XB : Hid (Blk ((w1.alloc (.cells #[] 35)).alloc (.cells #[.slice none 0 0, .slice none 0 0, .int .i64 0, .bool false] 25)).drew w.heap.size 25 [.slice A secs.length c, .slice A' pend.length c', .int .i64 (m : Int), .bool false] ∧ Blk ((w1.alloc (.cells #[] 35)).alloc (.cells #[.slice none 0 0, .slice none 0 0, .int .i64 0, .bool false] 25)).drew (w.heap.size + 1) 25 [.slice none 0 0, .slice none 0 0, .int .i64 0, .bool false]) := ⟨HB1.out.below (below_drew (below_box (below_box (Below.refl _ _) _) _)), HV1.out.below (below_drew (below_box (below_box (Below.refl _ _) _) _))⟩
  have XC : Hid (Blk ((w1.alloc (.cells #[.slice none 0 0, .slice none 0 0, .int .i64 0, .bool false] 25)).alloc (.cells #[] 35)).drew w.heap.size 25 [.slice A secs.length c, .slice A' pend.length c', .int .i64 (m : Int), .bool false] ∧ Blk ((w1.alloc (.cells #[.slice none 0 0, .slice none 0 0, .int .i64 0, .bool false] 25)).alloc (.cells #[] 35)).drew (w.heap.size + 1) 25 [.slice none 0 0, .slice none 0 0, .int .i64 0, .bool false]) := ⟨HB1.out.below (below_drew (below_box (below_box (Below.refl _ _) _) _)), HV1.out.below (below_drew (below_box (below_box (Below.refl _ _) _) _))⟩
  have k4 := Blk.new (w1.alloc (.cells #[] 35)) 25 [.slice none 0 0, .slice none 0 0, .int .i64 0, .bool false]
  rw [World.size_alloc] at k4
  have UB : Hid (Blk ((w1.alloc (.cells #[] 35)).alloc (.cells #[.slice none 0 0, .slice none 0 0, .int .i64 0, .bool false] 25)).drew (w1.heap.size + 1) 25 [.slice none 0 0, .slice none 0 0, .int .i64 0, .bool false]) := k4
  have k5 := Blk.new w1 25 [.slice none 0 0, .slice none 0 0, .int .i64 0, .bool false]
  have UC : Hid (Blk ((w1.alloc (.cells #[.slice none 0 0, .slice none 0 0, .int .i64 0, .bool false] 25)).alloc (.cells #[] 35)).drew w1.heap.size 25 [.slice none 0 0, .slice none 0 0, .int .i64 0, .bool false]) := k5.below (below_drew (below_box (Below.refl _ _) _))
  have KEEPS : Hid (∀ w' b u0 u1 u2 u3, w.heap.size + 2 ≤ b → (fun w' : World => Below w.heap.size w w' ∧ (w'.cell? ⟨w.heap.size, 0, none⟩ = some (.slice A secs.length c) ∧ w'.cell? ⟨w.heap.size, 1, none⟩ = some (.slice A' pend.length c') ∧ w'.cell? ⟨w.heap.size, 2, none⟩ = some (.int .i64 (m : Int)) ∧ w'.cell? ⟨w.heap.size, 3, none⟩ = some (.bool false))) w' → (fun w' : World => Below w.heap.size w w' ∧ (w'.cell? ⟨w.heap.size, 0, none⟩ = some (.slice A secs.length c) ∧ w'.cell? ⟨w.heap.size, 1, none⟩ = some (.slice A' pend.length c') ∧ w'.cell? ⟨w.heap.size, 2, none⟩ = some (.int .i64 (m : Int)) ∧ w'.cell? ⟨w.heap.size, 3, none⟩ = some (.bool false))) ((((w'.setCell ⟨b, 0, none⟩ u0).setCell ⟨b, 1, none⟩ u1).setCell ⟨b, 2, none⟩ u2).setCell ⟨b, 3, none⟩ u3)) := fun w' b u0 u1 u2 u3 hb h => by
    have hne : ∀ i j, (⟨b, i, none⟩ : Addr).block ≠ (⟨w.heap.size, j, none⟩ : Addr).block := fun _ _ e => by have e' : b = w.heap.size := e; omega
    exact ⟨below_set4 h.1 (by omega) _ _ _ _, othercell (hne _ _) (othercell (hne _ _) (othercell (hne _ _) (othercell (hne _ _) h.2.1))), othercell (hne _ _) (othercell (hne _ _) (othercell (hne _ _) (othercell (hne _ _) h.2.2.1))), othercell (hne _ _) (othercell (hne _ _) (othercell (hne _ _) (othercell (hne _ _) h.2.2.2.1))), othercell (hne _ _) (othercell (hne _ _) (othercell (hne _ _) (othercell (hne _ _) h.2.2.2.2)))⟩
  clear k1 k3 k4 k5
  go_upto_region 7 with fail
  go_cut [6] (fun s6 wx => ∃ b6 A7 c7, s6 = .pointer (some ⟨b6, 0, none⟩) ∧ Hid (Met w wx secs A c A' pend.length c' (m : Int) b6 A7 c7))
  case first =>
    go_region_held3 (fun w' : World => Below w.heap.size w w' ∧ (w'.cell? ⟨w.heap.size, 0, none⟩ = some (.slice A secs.length c) ∧ w'.cell? ⟨w.heap.size, 1, none⟩ = some (.slice A' pend.length c') ∧ w'.cell? ⟨w.heap.size, 2, none⟩ = some (.int .i64 (m : Int)) ∧ w'.cell? ⟨w.heap.size, 3, none⟩ = some (.bool false))) (first | exact KEEP1.out | exact KEEPA.out _ _ (by assumption) | exact hS7 | exact KEEPA.out _ _ hS7 | exact KEEPS.out _ _ _ _ _ _ hs1 hS7 | exact KEEPS.out _ _ _ _ _ _ (Nat.le_succ_of_le hs1) hS7 | assumption) (first | (refine step_apps (w := (w1.alloc (.cells #[] 35)).drew) (o := ⟨some 35, _, _, _, _, _⟩) rfl (.tmp 32) (.tmp 34) _ rfl E_bytes OA.out rfl (ys := secs) A c rfl SA.out.row (fun _ _ _ h => h) FA.out HBY.out (by decide) z1.out ?_; intro v7 w7 hown7 hg7 hat7; obtain ⟨A7, c7, rfl, _, _⟩ := hown7.form; have hrow7 : ∀ k, (Value.slice (some ⟨w1.heap.size, 0, none⟩) 0 0).ownBlock = some k → w.heap.size + 2 ≤ k := (fun k hk => own_is hk ▸ (by omega)); have hS7 := KEEPG.out _ _ _ TA.out hg7 hrow7 z1.out; have hX7 := Lib.hid ((XA.out.1).grown hg7 (fun e => by have := hrow7 _ e; omega)); have hR7 := Lib.hid ((XA.out.2).grown hg7 (fun e => by have := hrow7 _ e; omega)); have hs7 := Nat.le_trans z1.out hg7.size; skip) | (refine step_apps (w := ((w1.alloc (.cells #[] 35)).alloc (.cells #[.slice none 0 0, .slice none 0 0, .int .i64 0, .bool false] 25)).drew) (o := ⟨some 35, _, _, _, _, _⟩) rfl (.tmp 32) (.tmp 34) _ rfl E_bytes OB.out rfl (ys := secs) A c rfl SB.out.row (fun _ _ _ h => h) FB.out HBY.out (by decide) z2.out ?_; intro v7 w7 hown7 hg7 hat7; obtain ⟨A7, c7, rfl, _, _⟩ := hown7.form; have hrow7 : ∀ k, (Value.slice (some ⟨w1.heap.size, 0, none⟩) 0 0).ownBlock = some k → w.heap.size + 2 ≤ k := (fun k hk => own_is hk ▸ (by omega)); have hS7 := KEEPG.out _ _ _ TB.out hg7 hrow7 z2.out; have hX7 := Lib.hid ((XB.out.1).grown hg7 (fun e => by have := hrow7 _ e; omega)); have hR7 := Lib.hid ((XB.out.2).grown hg7 (fun e => by have := hrow7 _ e; omega)); have hs7 := Nat.le_trans z2.out hg7.size; obtain ⟨⟨y1, y2, y3, y4⟩, y5, y6, y7, y8⟩ := (UB.out.grown hg7 (by simp [Value.ownBlock])).facts4; have hU7 := Lib.hid (UB.out.grown hg7 (by simp [Value.ownBlock]))) | (refine step_apps (w := ((w1.alloc (.cells #[.slice none 0 0, .slice none 0 0, .int .i64 0, .bool false] 25)).alloc (.cells #[] 35)).drew) (o := ⟨some 35, _, _, _, _, _⟩) rfl (.tmp 32) (.tmp 34) _ rfl E_bytes OC.out rfl (ys := secs) A c rfl SC.out.row (fun _ _ _ h => h) FC.out HBY.out (by decide) z3.out ?_; intro v7 w7 hown7 hg7 hat7; obtain ⟨A7, c7, rfl, _, _⟩ := hown7.form; have hrow7 : ∀ k, (Value.slice (some ⟨w1.heap.size + 1, 0, none⟩) 0 0).ownBlock = some k → w.heap.size + 2 ≤ k := (fun k hk => own_is hk ▸ (by omega)); have hS7 := KEEPG.out _ _ _ TC.out hg7 hrow7 z3.out; have hX7 := Lib.hid ((XC.out.1).grown hg7 (fun e => by have := hrow7 _ e; omega)); have hR7 := Lib.hid ((XC.out.2).grown hg7 (fun e => by have := hrow7 _ e; omega)); have hs7 := Nat.le_trans z3.out hg7.size; obtain ⟨⟨y1, y2, y3, y4⟩, y5, y6, y7, y8⟩ := (UC.out.grown hg7 (by simp [Value.ownBlock])).facts4; have hU7 := Lib.hid (UC.out.grown hg7 (by simp [Value.ownBlock]))))
    all_goals
      go_wp2
      go_meet
      first
        | exact ⟨_, A7, c7, rfl, met_new hown7 hX7.out hR7.out hS7.1 hs7⟩
        | exact ⟨_, A7, c7, rfl, met_old hown7 hX7.out hR7.out hS7.1 hs7 (by omega) hU7.out rfl (fun k hk => hat7.elim (fun ha => by have h1 := own_is (ha ▸ hk : (Value.slice (some ⟨_, 0, none⟩) 0 0).ownBlock = some k); omega) (fun ha => by have h2 : (World.alloc (World.alloc w1 _) _).heap.size ≤ k := ha k hk; rw [World.size_alloc, World.size_alloc] at h2; omega))⟩
  case rest =>
    obtain ⟨b6, A7, c7, rfl, hMet⟩ := hcut
    have hP0 := Lib.hid (met_p hMet.out)
    clear hMet HB1 HV1 HBW1 HS1 KEEP0 KEEP1 KEEPA KEEPG KEEPS HBY z1 z2 z3 OA OB OC SA SB SC FA FB FC blkB TA TB TC XA XB XC UB UC
    clear e1 e2 e3 e4 e5 e6 e7 e8 g1 g2 g3 g4 g5 g6 g7 g8 f1 f2 f3 f4
    have hP1 := hP0
    go_wp2_with fail
    go_loopw [7] (fun i' wr => ∃ i : Nat, i' = .int .i64 i ∧ i ≤ m ∧ Hid (MetP w wr secs.length (performD (pend.take i) secs) A c A' pend.length c' (m : Int) b6 A7 c7)) (fun i' _ => m - (intOf i').toNat)
    case atStart => exact ⟨0, rfl, Nat.zero_le _, hP0⟩
    case round =>
      obtain ⟨i, rfl, hi, hP⟩ := hrel
      clear hP1
      obtain ⟨p1, p2, p3, p4, p5, p6, p7, p8, p9⟩ := hP.out
      obtain ⟨q1, q2, q3, q4⟩ := p3.facts4.1
      obtain ⟨u1, u2, u3, u4⟩ := p6.facts4.1
      have P3 := Lib.hid p3
      have P4 := Lib.hid p4
      have P5 := Lib.hid p5
      have P6 := Lib.hid p6
      have P7 := Lib.hid p7
      have P8 := Lib.hid p8
      clear p1 p3 p4 p5 p6 p7 p8 hP
      by_cases hin : i < m
      · have hin2 : i < pend.length := by omega
        obtain ⟨ad, A1, c1', rfl, x0, x1, hpos, hsl⟩ := wr_at (HP.out.below P8.out) hin2
        obtain ⟨o1, o2, o3⟩ := HWR.out pend[i] (List.getElem_mem hin2)
        obtain ⟨j, hj⟩ : ∃ j : Nat, pend[i].pos = (j : Int) := ⟨pend[i].pos.toNat, by omega⟩
        rw [hj] at x0 o1 o2
        have hjl : j < (performD (pend.take i) secs).length := by rw [length_performD]; omega
        have hK : kBytes.K wr (Old w) pend[i].data [.slice A1 pend[i].data.length c1'] := ⟨A1, c1', rfl, hsl⟩
        obtain ⟨g7, cap7, cur7, hv7, hg7, hF7, _⟩ := P4.out.block1 rfl (fun e => by rw [e] at hjl; cases hjl)
        rw [length_performD] at hv7
        injection hv7 with hv7 _ hc7
        subst hv7; subst hc7
        have hb67 : g7 ≠ b6 := P5.out g7 rfl
        obtain ⟨y1, y2, ⟨yu, y3⟩, y4, y5⟩ := P4.out.set1_at rfl hjl hK
        have HO7 := Lib.hid y5
        have HTK := Lib.hid (performD_take (s := secs) hin2)
        have hjn : pend[i].pos.toNat = j := by rw [hj]; rfl
        rw [hjn] at HTK
        have hji : (j : Int) < (secs.length : Int) := by omega
        have hli : (i : Int) < (pend.length : Int) := by omega
        obtain ⟨mi, hmi⟩ : ∃ m, pend[i].data.length = m := ⟨_, rfl⟩
        rw [hmi] at x1 HO7
        have hw0 : (⟨g7, j, none⟩ : Addr).block ≠ (⟨b6, 0, none⟩ : Addr).block := hb67
        have hpa : ∀ o : Nat, (⟨g7, j, none⟩ : Addr).block ≠ (⟨w.heap.size, o, none⟩ : Addr).block := fun o e => by have e' : g7 = w.heap.size := e; omega
        have hadl : (ad.add (i * 2)).block < w.heap.size := by
          obtain ⟨ad', cs', e', hF', _⟩ := HP.out.row.at_ hin2
          injection e' with e'
          subst e'
          rw [block_add]; exact hF'
        have KEEP1 : Hid ((fun w' : World => Below w.heap.size w w' ∧ ((w'.cell? ⟨b6, 0, none⟩ = some (.slice (some ⟨g7, 0, none⟩) secs.length c7) ∧ w'.cell? ⟨b6, 1, none⟩ = some (.slice none 0 0) ∧ w'.cell? ⟨b6, 2, none⟩ = some (.int .i64 (m : Int)) ∧ w'.cell? ⟨b6, 3, none⟩ = some (.bool false))) ∧ ((w'.cell? ⟨w.heap.size, 0, none⟩ = some (.slice A secs.length c) ∧ w'.cell? ⟨w.heap.size, 1, none⟩ = some (.slice (some ad) pend.length c') ∧ w'.cell? ⟨w.heap.size, 2, none⟩ = some (.int .i64 (m : Int)) ∧ w'.cell? ⟨w.heap.size, 3, none⟩ = some (.bool false))) ∧ w'.cell? (ad.add (i * 2)) = some (.int .i64 j) ∧ w'.cell? ⟨(ad.add (i * 2)).block, (ad.add (i * 2)).off + 1, none⟩ = some (.slice A1 mi c1')) wr.drew) := ⟨below_then P8.out (below_drew (Below.refl _ _)), ⟨q1, q2, q3, q4⟩, ⟨u1, u2, u3, u4⟩, x0, x1⟩
        have KEEP2 : Hid ((fun w' : World => Below w.heap.size w w' ∧ ((w'.cell? ⟨b6, 0, none⟩ = some (.slice (some ⟨g7, 0, none⟩) secs.length c7) ∧ w'.cell? ⟨b6, 1, none⟩ = some (.slice none 0 0) ∧ w'.cell? ⟨b6, 2, none⟩ = some (.int .i64 (m : Int)) ∧ w'.cell? ⟨b6, 3, none⟩ = some (.bool false))) ∧ ((w'.cell? ⟨w.heap.size, 0, none⟩ = some (.slice A secs.length c) ∧ w'.cell? ⟨w.heap.size, 1, none⟩ = some (.slice (some ad) pend.length c') ∧ w'.cell? ⟨w.heap.size, 2, none⟩ = some (.int .i64 (m : Int)) ∧ w'.cell? ⟨w.heap.size, 3, none⟩ = some (.bool false))) ∧ w'.cell? (ad.add (i * 2)) = some (.int .i64 j) ∧ w'.cell? ⟨(ad.add (i * 2)).block, (ad.add (i * 2)).off + 1, none⟩ = some (.slice A1 mi c1')) (wr.setCell ⟨g7, j, none⟩ (.slice A1 mi c1')).drew) := ⟨below_drew (P8.out.setCell (by show w.heap.size ≤ g7; omega) _), ⟨othercell hb67 q1, othercell hb67 q2, othercell hb67 q3, othercell hb67 q4⟩, ⟨othercell (hpa 0) u1, othercell (hpa 1) u2, othercell (hpa 2) u3, othercell (hpa 3) u4⟩, othercell (fun e => by have e' : g7 = (ad.add (i * 2)).block := e; omega) x0, othercell (fun e => by have e' : g7 = (ad.add (i * 2)).block := e; omega) x1⟩
        have HX : Hid (MetP w (wr.setCell ⟨g7, j, none⟩ (.slice A1 mi c1')).drew secs.length (performD (pend.take (i + 1)) secs) A c (some ad) pend.length c' (m : Int) b6 (some ⟨g7, 0, none⟩) c7) := by
          refine ⟨by rw [length_performD], p2, (P3.out.other (fun e => hb67 e.symm)).below (below_drew (Below.refl _ _)), ?_, P5.out, (P6.out.other (by omega)).below (below_drew (Below.refl _ _)), (P7.out.other (by omega)).below (below_drew (Below.refl _ _)), below_drew (P8.out.setCell (by show w.heap.size ≤ g7; omega) _), by show _ ≤ (wr.setCell _ _).heap.size; simpa [World.setCell] using p9⟩
          rw [HTK.out]
          have h7 := HO7.out.below (below_drew (Below.refl _ _))
          have e7 : pend[i].data.length = mi := hmi
          exact h7
        clear hpos hsl hK y5 hmi hj hjn
        go_wp2_with fail
        go_region_held3 (fun w' : World => Below w.heap.size w w' ∧ ((w'.cell? ⟨b6, 0, none⟩ = some (.slice (some ⟨g7, 0, none⟩) secs.length c7) ∧ w'.cell? ⟨b6, 1, none⟩ = some (.slice none 0 0) ∧ w'.cell? ⟨b6, 2, none⟩ = some (.int .i64 (m : Int)) ∧ w'.cell? ⟨b6, 3, none⟩ = some (.bool false))) ∧ ((w'.cell? ⟨w.heap.size, 0, none⟩ = some (.slice A secs.length c) ∧ w'.cell? ⟨w.heap.size, 1, none⟩ = some (.slice (some ad) pend.length c') ∧ w'.cell? ⟨w.heap.size, 2, none⟩ = some (.int .i64 (m : Int)) ∧ w'.cell? ⟨w.heap.size, 3, none⟩ = some (.bool false))) ∧ w'.cell? (ad.add (i * 2)) = some (.int .i64 j) ∧ w'.cell? ⟨(ad.add (i * 2)).block, (ad.add (i * 2)).off + 1, none⟩ = some (.slice A1 mi c1')) (first | exact KEEP1.out | exact KEEP2.out) (fail)
        go_wp2
        go_roundw
        case rel => exact ⟨i + 1, by go_num, by omega, HX⟩
        case measure => simp [intOf]; omega
      · obtain rfl : i = m := by omega
        have hs8 : SL kBytes wr (fun k => (k < w.heap.size ∨ w.heap.size + 2 ≤ k) ∧ k ≠ b6) A7 c7 (performD (pend.take i) secs) := by
          obtain ⟨A9, c9, e9, h9⟩ := P4.out.sl (F' := fun k => (k < w.heap.size ∨ w.heap.size + 2 ≤ k) ∧ k ≠ b6) (fun k hk _ => ⟨.inl hk, fun e => by have hk' : k < w.heap.size := hk; omega⟩) (fun k hk => ⟨.inr (P4.out.lt k hk).1, P5.out k hk⟩)
          rw [length_performD] at e9
          injection e9 with e9 _ e10
          subst e9; subst e10
          exact h9
        obtain ⟨ad, A1, c1', rfl, x0, x1, hpos, hsl⟩ := wr_at (HP.out.below P8.out) hm
        obtain ⟨o1, o2, o3⟩ := HWR.out pend[i] (List.getElem_mem hm)
        obtain ⟨j, hj⟩ : ∃ j : Nat, pend[i].pos = (j : Int) := ⟨pend[i].pos.toNat, by omega⟩
        have hjl : j < (performD (pend.take i) secs).length := by rw [length_performD]; omega
        have HTD := Lib.hid (tornD_eq (stop := false) hm hj hjl)
        rw [hj] at x0 o1 o2
        rw [o3] at x1
        have HJ := Lib.hid hj
        have HD128 := Lib.hid o3
        have HO128 := Lib.hid (performD_mem (l := pend.take i) HSE.out (fun x hx => (HWR.out x (List.mem_of_mem_take hx)).2.2) _ (List.getElem_mem hjl))
        obtain ⟨ad8, A9, c9, e8, y0, hs9⟩ := hs8.sl_at hjl
        rw [HO128.out] at y0
        obtain ⟨g7, cap7, cur7, hv7, hg7, hF7, _⟩ := P4.out.block1 rfl (fun e => by rw [e] at hjl; cases hjl)
        rw [length_performD] at hv7
        injection hv7 with hv7 _ hc7
        subst hv7; subst hc7
        injection e8 with e8
        subst e8
        rw [addr_add0] at y0
        obtain ⟨a9, _, hA9, _⟩ := hs9.row.at_ (i := 0) (by rw [HO128.out]; decide)
        subst hA9
        have hb67 : g7 ≠ b6 := P5.out g7 rfl
        have hc1 : 64 ≤ c1' := by have := hsl.le; rw [HD128.out] at this; omega
        have hc1m := hsl.max
        have hc9 : 128 ≤ c9 := by have := hs9.le; rw [HO128.out] at this; exact this
        have hc9m := hs9.max
        unfold maxLen at hc1m hc9m
        have HSD := Lib.hid hsl
        have HS9 := Lib.hid hs9
        have Y0 := Lib.hid y0
        have X0 := Lib.hid x0
        have X1 := Lib.hid x1
        have hli : (i : Int) < (pend.length : Int) := by omega
        clear hpos hsl hs8 hs9 hj o3
        go_upto_region 14 with fail
        clear q1 q2 q3 q4 u1 u2 u3 u4 x0 x1 y0
        obtain ⟨w8, hw8⟩ : ∃ w8, wr.alloc (.cells #[.int .i64 j, .slice A1 128 c1'] 54) = w8 := ⟨_, rfl⟩
        have hb8 := below_box (Below.refl wr.heap.size wr) (.cells #[.int .i64 j, .slice A1 128 c1'] 54)
        have hN8 := Blk.new wr 54 [.int .i64 j, .slice A1 128 c1']
        rw [show ([Value.int .i64 j, .slice A1 128 c1']).toArray = #[.int .i64 j, .slice A1 128 c1'] from rfl, hw8] at hN8
        rw [hw8] at hb8 ⊢
        have HB8 := Lib.hid hb8
        have HN8 := Lib.hid hN8
        have hg8 : wr.heap.size < w8.heap.size := hN8.lt
        have hj0 : (0 : Int) ≤ (j : Int) := by omega
        have hjs : (j : Int) < (secs.length : Int) := o2
        have h64 : (64 : Int) ≤ (c1' : Int) := by omega
        have h649 : (64 : Int) ≤ (c9 : Int) := by omega
        have hn64 : ¬ c9 = 64 := by omega
        have KEEP0 : Hid (∀ w', Below w8.heap.size w8 w' → (fun w' : World => Below w8.heap.size w8 w' ∧ ((w'.cell? ⟨b6, 0, none⟩ = some (.slice (some ⟨g7, 0, none⟩) secs.length c7) ∧ w'.cell? ⟨b6, 1, none⟩ = some (.slice none 0 0) ∧ w'.cell? ⟨b6, 2, none⟩ = some (.int .i64 i) ∧ w'.cell? ⟨b6, 3, none⟩ = some (.bool false))) ∧ (w'.cell? ⟨wr.heap.size, 0, none⟩ = some (.int .i64 j) ∧ w'.cell? ⟨wr.heap.size, 1, none⟩ = some (.slice A1 128 c1')) ∧ w'.cell? ⟨g7, j, none⟩ = some (.slice (some a9) 128 c9)) w') := fun w' hb => ⟨hb, (P3.out.below (below_then HB8.out hb)).facts4.1, (HN8.out.below hb).facts2.1, keepcell (below_then HB8.out hb) Y0.out⟩
        have KEEP1 := Lib.hid (KEEP0.out _ (below_drew (Below.refl _ _)))
        clear hw8 hb8 hN8
        refine regionU (fun w' : World => Below w8.heap.size w8 w' ∧ ((w'.cell? ⟨b6, 0, none⟩ = some (.slice (some ⟨g7, 0, none⟩) secs.length c7) ∧ w'.cell? ⟨b6, 1, none⟩ = some (.slice none 0 0) ∧ w'.cell? ⟨b6, 2, none⟩ = some (.int .i64 i) ∧ w'.cell? ⟨b6, 3, none⟩ = some (.bool false))) ∧ (w'.cell? ⟨wr.heap.size, 0, none⟩ = some (.int .i64 j) ∧ w'.cell? ⟨wr.heap.size, 1, none⟩ = some (.slice A1 128 c1')) ∧ w'.cell? ⟨g7, j, none⟩ = some (.slice (some a9) 128 c9)) 18 (by kernel_rfl) KEEP1.out (fun hHeld => ?_)
        refine AnyU.take (i := 0) (v := ?_) rfl (by decide) (by kernel_rfl) (by kernel_rfl) (by kernel_rfl) (by kernel_rfl) (fun _ _ _ h => h) (Or.inl ⟨by rfl, ?_⟩) (by assumption) ?_
        rotate_left
        · intro w hSw
          (try dsimp only at hSw)
          go_simp
          (try with_reducible rfl)
        simp only [Act.put, List.setIfInBounds_toArray, List.set_cons_zero, List.set_cons_succ]
        refine AnyU.take (i := 1) (v := ?_) rfl (by decide) (by kernel_rfl) (by kernel_rfl) (by kernel_rfl) (by kernel_rfl) (fun _ _ _ h => h) (Or.inl ⟨by rfl, ?_⟩) (by assumption) ?_
        rotate_left
        · intro w hSw
          (try dsimp only at hSw)
          go_simp
          (try with_reducible rfl)
        simp only [Act.put, List.setIfInBounds_toArray, List.set_cons_zero, List.set_cons_succ]
        refine AnyU.take (i := 2) (v := ?_) rfl (by decide) (by kernel_rfl) (by kernel_rfl) (by kernel_rfl) (by kernel_rfl) (fun _ _ _ h => h) (Or.inl ⟨by rfl, ?_⟩) (by assumption) ?_
        rotate_left
        · intro w hSw
          (try dsimp only at hSw)
          go_simp
          (try with_reducible rfl)
        simp only [Act.put, List.setIfInBounds_toArray, List.set_cons_zero, List.set_cons_succ]
        refine AnyU.take (i := 3) (v := ?_) rfl (by decide) (by kernel_rfl) (by kernel_rfl) (by kernel_rfl) (by kernel_rfl) (fun _ _ _ h => h) (Or.inl ⟨by rfl, ?_⟩) (by assumption) ?_
        rotate_left
        · intro w hSw
          (try dsimp only at hSw)
          go_simp
          (try with_reducible rfl)
        simp only [Act.put, List.setIfInBounds_toArray, List.set_cons_zero, List.set_cons_succ]
        refine AnyU.take (i := 5) (v := ?_) rfl (by decide) (by kernel_rfl) (by kernel_rfl) (by kernel_rfl) (by kernel_rfl) (fun _ _ _ h => h) (Or.inl ⟨by rfl, ?_⟩) (by assumption) ?_
        rotate_left
        · intro w hSw
          (try dsimp only at hSw)
          go_simp
          (try with_reducible rfl)
        simp only [Act.put, List.setIfInBounds_toArray, List.set_cons_zero, List.set_cons_succ]
        refine AnyU.take (i := 6) (v := ?_) rfl (by decide) (by kernel_rfl) (by kernel_rfl) (by kernel_rfl) (by kernel_rfl) (fun _ _ _ h => h) (Or.inl ⟨by rfl, ?_⟩) (by assumption) ?_
        rotate_left
        · intro w hSw
          (try dsimp only at hSw)
          go_simp
          (try with_reducible rfl)
        simp only [Act.put, List.setIfInBounds_toArray, List.set_cons_zero, List.set_cons_succ]
        refine AnyU.take (i := 7) (v := ?_) rfl (by decide) (by kernel_rfl) (by kernel_rfl) (by kernel_rfl) (by kernel_rfl) (fun _ _ _ h => h) (Or.inl ⟨by rfl, ?_⟩) (by assumption) ?_
        rotate_left
        · intro w hSw
          (try dsimp only at hSw)
          go_simp
          (try with_reducible rfl)
        simp only [Act.put, List.setIfInBounds_toArray, List.set_cons_zero, List.set_cons_succ]
        refine AnyU.take (i := 9) (v := ?_) rfl (by decide) (by kernel_rfl) (by kernel_rfl) (by kernel_rfl) (by kernel_rfl) (fun _ _ _ h => h) (Or.inl ⟨by rfl, ?_⟩) (by assumption) ?_
        rotate_left
        · intro w hSw
          (try dsimp only at hSw)
          go_simp
          (try with_reducible rfl)
        simp only [Act.put, List.setIfInBounds_toArray, List.set_cons_zero, List.set_cons_succ]
        refine AnyU.take (i := 10) (v := ?_) rfl (by decide) (by kernel_rfl) (by kernel_rfl) (by kernel_rfl) (by kernel_rfl) (fun _ _ _ h => h) (Or.inl ⟨by rfl, ?_⟩) (by assumption) ?_
        rotate_left
        · intro w hSw
          (try dsimp only at hSw)
          go_simp
          (try with_reducible rfl)
        simp only [Act.put, List.setIfInBounds_toArray, List.set_cons_zero, List.set_cons_succ]
        refine AnyU.take (i := 11) (v := ?_) rfl (by decide) (by kernel_rfl) (by kernel_rfl) (by kernel_rfl) (by kernel_rfl) (fun _ _ _ h => h) (Or.inl ⟨by rfl, ?_⟩) (by assumption) ?_
        rotate_left
        · intro w hSw
          (try dsimp only at hSw)
          go_simp
          (try with_reducible rfl)
        simp only [Act.put, List.setIfInBounds_toArray, List.set_cons_zero, List.set_cons_succ]
        refine AnyU.take (i := 12) (v := ?_) rfl (by decide) (by kernel_rfl) (by kernel_rfl) (by kernel_rfl) (by kernel_rfl) (fun _ _ _ h => h) (Or.inl ⟨by rfl, ?_⟩) (by assumption) ?_
        rotate_left
        · intro w hSw
          (try dsimp only at hSw)
          go_simp
          (try with_reducible rfl)
        simp only [Act.put, List.setIfInBounds_toArray, List.set_cons_zero, List.set_cons_succ]
        refine AnyU.take (i := 13) (v := ?_) rfl (by decide) (by kernel_rfl) (by kernel_rfl) (by kernel_rfl) (by kernel_rfl) (fun _ _ _ h => h) (Or.inl ⟨by rfl, ?_⟩) (by assumption) ?_
        rotate_left
        · intro w hSw
          (try dsimp only at hSw)
          go_simp
          (try with_reducible rfl)
        simp only [Act.put, List.setIfInBounds_toArray, List.set_cons_zero, List.set_cons_succ]
        refine AnyU.take (i := 14) (v := ?_) rfl (by decide) (by kernel_rfl) (by kernel_rfl) (by kernel_rfl) (by kernel_rfl) (fun _ _ _ h => h) (Or.inl ⟨by rfl, ?_⟩) (by assumption) ?_
        rotate_left
        · intro w hSw
          (try dsimp only at hSw)
          go_simp
          (try with_reducible rfl)
        simp only [Act.put, List.setIfInBounds_toArray, List.set_cons_zero, List.set_cons_succ]
        refine AnyU.take (i := 15) (v := ?_) rfl (by decide) (by kernel_rfl) (by kernel_rfl) (by kernel_rfl) (by kernel_rfl) (fun _ _ _ h => h) (Or.inl ⟨by rfl, ?_⟩) (by assumption) ?_
        rotate_left
        · intro w hSw
          (try dsimp only at hSw)
          go_simp
          (try with_reducible rfl)
        simp only [Act.put, List.setIfInBounds_toArray, List.set_cons_zero, List.set_cons_succ]
        refine AnyU.ready (rs := [4]) (by kernel_rfl) (by simp) (EachU.cons rfl (fun K hK => ?_) EachU.nil)
        go_simp
        refine hK.out _ _ ?_ (fun hHeld => ?_)
        · exact KEEP0.out _ (below_drew (below_box (Below.refl _ _) _))
        clear hK K
        try simp only [Act.put, List.setIfInBounds_toArray, List.set_cons_zero, List.set_cons_succ]
        have H64 : Hid ((pend[i].data.take 64).length = 64) := by show _ = _; rw [List.length_take, HD128.out]; rfl
        have H649 : Hid (((performD (pend.take i) secs)[j].drop 64).length = 64) := by show _ = _; rw [List.length_drop, HO128.out]
        have hO0 : Hid (Own kU8 5 (w8.alloc (.cells #[] 5)).drew w8.heap.size (fun _ => False) (.slice (some ⟨w8.heap.size, 0, none⟩) 0 0) ([] : List UInt8)) := own_empty_at ((Blk.new w8 5 []).below (below_drew (Below.refl _ _))) (Nat.le_refl _) (fun h => h)
        have hR1 : Hid (Row kU8 (w8.alloc (.cells #[] 5)).drew (Old w) A1 (pend[i].data.take 64)) := ((HSD.out.below (below_then HB8.out (below_drew (below_box (Below.refl _ _) _)))).take (k := 64) (c' := 64) (by rw [HD128.out]; decide) (Nat.le_refl _) hc1).row
        have hz9 : Hid (w8.heap.size ≤ (w8.alloc (.cells #[] 5)).drew.heap.size) := (below_drew (below_box (Below.refl _ _) _)).size
        refine AnyU.ready (rs := [8]) (by kernel_rfl) (by simp) (EachU.cons rfl (fun K hK => ?_) EachU.nil)
        refine step_apps (w := (w8.alloc (.cells #[] 5)).drew) (o := ⟨some 73, _, _, _, _, _⟩) rfl (.tmp 69) (.tmp 72) _ rfl E_u8 hO0.out rfl (ys := pend[i].data.take 64) A1 c1' (by rw [H64.out]; rfl) hR1.out (fun _ _ _ h => h) (fun _ h => h.elim) (by rw [H64.out]; decide) (by decide) hz9.out ?_
        intro v9 w9 hown9 hg9 hat9
        obtain ⟨A10, c10, rfl, _, _⟩ := hown9.form
        rw [List.nil_append, H64.out] at hown9
        have HO9 := Lib.hid hown9
        have hB9 : Below w8.heap.size w8 w9 := (below_drew (below_box (Below.refl w8.heap.size w8) (.cells #[] 5))).grown hg9 hz9.out (fun k hk => by have := own_is hk; omega)
        clear hown9 hg9 hat9
        refine hK.out _ _ ?_ (fun hHeld => ?_)
        · exact KEEP0.out _ hB9
        clear hK K
        try simp only [Act.put, List.setIfInBounds_toArray, List.set_cons_zero, List.set_cons_succ]
        have HB9 := Lib.hid hB9
        have hR2 : Hid (Row kU8 w9 (fun k => (k < w.heap.size ∨ w.heap.size + 2 ≤ k) ∧ k ≠ b6) (some ⟨a9.block, a9.off + 64, none⟩) ((performD (pend.take i) secs)[j].drop 64)) := row_drop64 (HS9.out.below (below_then HB8.out HB9.out)) (by rw [HO128.out]; decide) hn64
        have hB9s := Lib.hid HB9.out.size
        rw [show (([] : List UInt8) ++ pend[i].data.take 64).length = 64 from H64.out]
        refine AnyU.ready (rs := [16]) (by kernel_rfl) (by simp) (EachU.cons rfl (fun K hK => ?_) EachU.nil)
        refine step_apps (w := w9) (o := ⟨some 81, _, _, _, _, _⟩) rfl (.tmp 73) (.tmp 80) _ rfl E_u8 HO9.out rfl (ys := (performD (pend.take i) secs)[j].drop 64) (some ⟨a9.block, a9.off + 64, none⟩) (c9 - 64) (by rw [H649.out]; rfl) hR2.out (fun _ _ _ h => h) (fun _ h => h.elim) (by rw [H64.out, H649.out]; decide) (by decide) hB9s.out ?_
        intro v11 w11 hown11 hg11 hat11
        have hown12 : Own kU8 5 w11 w8.heap.size (fun _ => False) v11 (tear pend[i].data (performD (pend.take i) secs)[j]) := hown11
        obtain ⟨A16, c16, hv11, _, _⟩ := hown12.form
        have htl := length_tear HD128.out HO128.out
        rw [htl] at hv11
        subst hv11
        have HO11 := Lib.hid hown12
        have hB11 : Below w8.heap.size w8 w11 := HB9.out.grown hg11 hB9s.out (fun k hk => (HO9.out.lt k hk).1)
        clear hown11 hown12 hg11 hat11 htl
        refine hK.out _ _ ?_ (fun hHeld => ?_)
        · exact KEEP0.out _ hB11
        clear hK K
        try simp only [Act.put, List.setIfInBounds_toArray, List.set_cons_zero, List.set_cons_succ]
        have HB11 := Lib.hid hB11
        refine AnyU.take (i := 17) (v := ?_) rfl (by decide) (by kernel_rfl) (by kernel_rfl) (by kernel_rfl) (by kernel_rfl) (fun _ _ _ h => h) (Or.inl ⟨by rfl, ?_⟩) (by assumption) ?_
        rotate_left
        · intro w hSw
          (try dsimp only at hSw)
          go_simp
          (try with_reducible rfl)
        simp only [Act.put, List.setIfInBounds_toArray, List.set_cons_zero, List.set_cons_succ]
        have hK11 : kBytes.K w11 (fun k => ((k < w.heap.size ∨ w.heap.size + 2 ≤ k) ∧ k ≠ b6) ∧ k ≠ g7) (tear pend[i].data (performD (pend.take i) secs)[j]) [.slice A16 128 c16] := by
          obtain ⟨A12, c12, e12, h12⟩ := HO11.out.sl (F' := fun k => ((k < w.heap.size ∨ w.heap.size + 2 ≤ k) ∧ k ≠ b6) ∧ k ≠ g7) (fun _ h => h.elim) (fun k hk => by
            have a1 := (HO11.out.lt k hk).1
            have a2 := P3.out.lt
            have a3 := (P4.out.lt g7 rfl).2
            exact ⟨⟨.inr (by omega), by omega⟩, by omega⟩)
          exact ⟨A12, c12, by rw [← e12], h12⟩
        have hO12 := ((P4.out.below (below_then HB8.out HB11.out)).mono (F' := fun k => ((k < w.heap.size ∨ w.heap.size + 2 ≤ k) ∧ k ≠ b6) ∧ k ≠ g7) (fun k hk _ => by have hk' : k < w.heap.size := hk; exact ⟨⟨.inl hk', by omega⟩, by omega⟩) (fun k hk h => h.2 (own_is hk).symm)).set1_at rfl hjl hK11
        obtain ⟨k1, k2, ⟨ku, k3⟩, k4, k5⟩ := hO12
        have HO12 := Lib.hid k5
        have hB6 := (P3.out.below (below_then HB8.out HB11.out)).other (v := g7) (i := j) (u := .slice A16 128 c16) (fun e => hb67 e.symm)
        have hB6b := hB6.set 2 (.int .i64 0)
        have hB6c := hB6b.set 3 (.bool true)
        have hP7 := ((P7.out.below (below_then HB8.out HB11.out)).other (v := g7) (i := j) (u := .slice A16 128 c16) (by omega)).other (v := b6) (i := 2) (u := .int .i64 0) (by omega)
        have hP7c := hP7.other (v := b6) (i := 3) (u := .bool true) (by omega)
        have HP7c := Lib.hid hP7c
        have HWW : Hid (Below w.heap.size w (((w11.setCell ⟨g7, j, none⟩ (.slice A16 128 c16)).setCell ⟨b6, 2, none⟩ (.int .i64 0)).setCell ⟨b6, 3, none⟩ (.bool true))) := (((below_then P8.out (below_then HB8.out HB11.out)).setCell (by show w.heap.size ≤ g7; omega) _).setCell (by show w.heap.size ≤ b6; omega) _).setCell (by show w.heap.size ≤ b6; omega) _
        clear k5 hK11 hP7
        refine AnyU.ready (rs := [18]) (by kernel_rfl) (by simp) (EachU.last rfl (fun K hK => ?_))
        go_simp
        refine hK.out _ _ ?_
        clear hK K
        try simp only [Act.put, List.setIfInBounds_toArray, List.set_cons_zero, List.set_cons_succ]
        refine AnyU.done (by kernel_rfl) ?_ _
        obtain ⟨z1, z2, z3, z4⟩ := hB6.facts4.1
        obtain ⟨z5, z6, z7, z8⟩ := hB6.facts4.2
        obtain ⟨t1, t2, t3, t4⟩ := hB6b.facts4.1
        obtain ⟨t5, t6, t7, t8⟩ := hB6b.facts4.2
        obtain ⟨s1, s2, s3, s4⟩ := hB6c.facts4.1
        obtain ⟨v1, v2, v3, v4⟩ := HP7c.out.facts4.1
        obtain ⟨v5, v6, v7, v8⟩ := HP7c.out.facts4.2
        clear hB6 hB6b hB6c hP7c k3 k4
        have hF9 : ¬ ((fun k => (k < w.heap.size ∨ w.heap.size + 2 ≤ k) ∧ k ≠ b6) (w.heap.size + 1)) := fun h => by rcases h.1 with h | h <;> omega
        have hF6 : ¬ ((fun k => (k < w.heap.size ∨ w.heap.size + 2 ≤ k) ∧ k ≠ b6) b6) := fun h => h.2 rfl
        have h12 : SL kBytes (w11.setCell ⟨g7, j, none⟩ (.slice A16 128 c16)) (fun k => (k < w.heap.size ∨ w.heap.size + 2 ≤ k) ∧ k ≠ b6) (some ⟨g7, 0, none⟩) c7 ((performD (pend.take i) secs).set j (tear pend[i].data (performD (pend.take i) secs)[j])) := by
          obtain ⟨A13, c13, e13, h13⟩ := HO12.out.sl (F' := fun k => (k < w.heap.size ∨ w.heap.size + 2 ≤ k) ∧ k ≠ b6) (fun k hk _ => hk.1) (fun k hk => own_is hk ▸ ⟨.inr hg7, hb67⟩)
          injection e13 with e13 _ e14
          subst e13; subst e14
          exact h13
        have h14 := sl_set (i := 3) (sl_set (i := 2) h12 hF6 (.int .i64 0)) hF6 (.bool true)
        go_upto_region 17 with fail
        generalize ((w11.setCell ⟨g7, j, none⟩ (.slice A16 128 c16)).setCell ⟨b6, 2, none⟩ (.int .i64 0)).setCell ⟨b6, 3, none⟩ (.bool true) = w14 at *
        have H14 := Lib.hid h14
        clear h12 h14 z1 z2 z3 z4 z5 z6 z7 z8 t1 t2 t3 t4 t5 t6 t7 t8
        go_wp2
        rw [HE.out.1, HE.out.2, HTD.out]
        have hK := kDsk_is (d := ⟨(performD (pend.take i) secs).set j (tear pend[i].data (performD (pend.take i) secs)[j]), [], 0, true⟩) (n := secs.length) (l := 0) H14.out (SL.nil (A := none) (c := 0) (Nat.zero_le _)) (by show I64 0; unfold I64; decide) (by show _ = (List.set _ _ _).length; rw [List.length_set, length_performD]) rfl rfl rfl
        exact dskE_leave rfl HP7c.out rfl hK hF9 HWW.out (by omega) rfl rfl
theorem rsync_calls {d : Dsk} {w : World} {cs : List Value} (h : kDsk.K w (Old w) d cs) : Calls Try.prog 24 #[.agg cs.toArray] w (DskE (syncD d) (syncE d) w) := by
  cases hr : d.runs
  · exact rsync_idle h hr
  · obtain ⟨secs, pend, left, stop⟩ := d
    have hst : stop = false := ((runs_iff _).1 hr).2
    subst hst
    by_cases h1 : left < 0
    · exact rsync_neg h hr h1
    · by_cases h2 : (pend.length : Int) ≤ left
      · exact rsync_pos h hr (by omega) h2
      · obtain ⟨m, rfl⟩ : ∃ m : Nat, left = (m : Int) := ⟨left.toNat, by omega⟩
        exact rsync_torn h hr (by omega)
end Go.Proofs.Ytmcdimcjmafaoaa.B
