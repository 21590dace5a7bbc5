import Derived.Test.YtmcdimcjmafaoaaDiskQ
import Derived.Test.YtmcdimcjmafaoaaDLawStopped
import Derived.Test.YtmcdimcjmafaoaaRegionU
import Derived.Test.YtmcdimcjmafaoaaDTogether
namespace Go.Proofs.Ytmcdimcjmafaoaa.B
set_option linter.unusedVariables false
set_option linter.unusedSimpArgs false
open Go.RowKit

theorem own_empty_at {α : Type} {d : Kd α} {e : TypeId} {w : World} {b B : Nat} {F : Foot} (h : Blk w b e []) (hB : B ≤ b) (hF : ¬ F b) : Own d e w B F (.slice (some ⟨b, 0, none⟩) 0 0) ([] : List α) := by
  refine ⟨[], ⟨by simp, .inr ⟨b, 0, #[], rfl, hB, h, Nat.le_refl _, Nat.zero_le _, by simp, by simp⟩⟩, CellsOf.nil, fun k hk => own_is hk ▸ hF⟩
/-- The three ways meet: the new disk's block lies behind the row. -/
def Met (w wx : World) (secs : List (List UInt8)) (A : Option Addr) (c : Nat) (A' : Option Addr) (n c' : Nat) (left : Int) (b6 : Nat) (A7 : Option Addr) (c7 : Nat) : Prop :=
  w.heap.size + 2 ≤ b6 ∧ Blk wx b6 25 [.slice A7 secs.length c7, .slice none 0 0, .int .i64 left, .bool false] ∧ Own kBytes 35 wx (w.heap.size + 2) (Old w) (.slice A7 secs.length c7) secs ∧ (∀ k, (Value.slice A7 secs.length c7).ownBlock = some k → k ≠ b6) ∧
  Blk wx w.heap.size 25 [.slice A secs.length c, .slice A' n c', .int .i64 left, .bool false] ∧ Blk wx (w.heap.size + 1) 25 [.slice none 0 0, .slice none 0 0, .int .i64 0, .bool false] ∧ Below w.heap.size w wx ∧ w.heap.size + 2 ≤ wx.heap.size
theorem met_new {w w7 : World} {secs : List (List UInt8)} {A A' A7 : Option Addr} {c n c' c7 : Nat} {left : Int} (hO : Own kBytes 35 w7 (w.heap.size + 2) (Old w) (.slice A7 secs.length c7) secs) (hX : Blk w7 w.heap.size 25 [.slice A secs.length c, .slice A' n c', .int .i64 left, .bool false])
    (hR : Blk w7 (w.heap.size + 1) 25 [.slice none 0 0, .slice none 0 0, .int .i64 0, .bool false]) (hW : Below w.heap.size w w7) (hs : w.heap.size + 2 ≤ w7.heap.size) :
    Met w (w7.alloc (.cells #[.slice A7 secs.length c7, .slice none 0 0, .int .i64 left, .bool false] 25)) secs A c A' n c' left w7.heap.size A7 c7 := by
  have hb := below_box (Below.refl w7.heap.size w7) (.cells #[.slice A7 secs.length c7, .slice none 0 0, .int .i64 left, .bool false] 25)
  exact ⟨hs, Blk.new w7 25 [.slice A7 secs.length c7, .slice none 0 0, .int .i64 left, .bool false], hO.below hb, fun k hk e => by have := (hO.lt k hk).2; omega, hX.below hb, hR.below hb, below_then hW hb, by rw [World.size_alloc]; omega⟩
theorem met_old {w w7 : World} {secs : List (List UInt8)} {A A' A7 : Option Addr} {c n c' c7 b : Nat} {left : Int} {l0 : List Value} (hO : Own kBytes 35 w7 (w.heap.size + 2) (Old w) (.slice A7 secs.length c7) secs) (hX : Blk w7 w.heap.size 25 [.slice A secs.length c, .slice A' n c', .int .i64 left, .bool false])
    (hR : Blk w7 (w.heap.size + 1) 25 [.slice none 0 0, .slice none 0 0, .int .i64 0, .bool false]) (hW : Below w.heap.size w w7) (hs : w.heap.size + 2 ≤ w7.heap.size)
    (hb : w.heap.size + 2 ≤ b) (hZ : Blk w7 b 25 l0) (hl : l0.length = 4) (hne : ∀ k, (Value.slice A7 secs.length c7).ownBlock = some k → k ≠ b) :
    Met w ((((w7.setCell ⟨b, 0, none⟩ (.slice A7 secs.length c7)).setCell ⟨b, 1, none⟩ (.slice none 0 0)).setCell ⟨b, 2, none⟩ (.int .i64 left)).setCell ⟨b, 3, none⟩ (.bool false)) secs A c A' n c' left b A7 c7 := by
  have h1 : w.heap.size ≠ b := by omega
  have h2 : w.heap.size + 1 ≠ b := by omega
  refine ⟨hb, dsk_set4 hZ hl _ _ _ _, hO.step (by simp [World.setCell]) (fun k hk _ => ?_), hne, (((hX.other h1).other h1).other h1).other h1, (((hR.other h2).other h2).other h2).other h2, below_set4 hW (by omega) _ _ _ _, by simpa [World.setCell] using hs⟩
  have hk' : k ≠ b := by
    rcases hk with hk | hk
    · have h' : k < w.heap.size := hk; omega
    · exact hne k hk
  rw [Below.heap_setCell _ _ _ _ hk', Below.heap_setCell _ _ _ _ hk', Below.heap_setCell _ _ _ _ hk', Below.heap_setCell _ _ _ _ hk']
/-- .. with what has been performed so far. -/
def MetP (w wx : World) (N : Nat) (cur : List (List UInt8)) (A : Option Addr) (c : Nat) (A' : Option Addr) (n c' : Nat) (left : Int) (b6 : Nat) (A7 : Option Addr) (c7 : Nat) : Prop :=
  cur.length = N ∧ w.heap.size + 2 ≤ b6 ∧ Blk wx b6 25 [.slice A7 N c7, .slice none 0 0, .int .i64 left, .bool false] ∧ Own kBytes 35 wx (w.heap.size + 2) (Old w) (.slice A7 N c7) cur ∧ (∀ k, (Value.slice A7 N c7).ownBlock = some k → k ≠ b6) ∧
  Blk wx w.heap.size 25 [.slice A N c, .slice A' n c', .int .i64 left, .bool false] ∧ Blk wx (w.heap.size + 1) 25 [.slice none 0 0, .slice none 0 0, .int .i64 0, .bool false] ∧ Below w.heap.size w wx ∧ w.heap.size + 2 ≤ wx.heap.size
theorem met_p {w wx : World} {secs : List (List UInt8)} {A A' A7 : Option Addr} {c n c' c7 b6 : Nat} {left : Int} (h : Met w wx secs A c A' n c' left b6 A7 c7) : MetP w wx secs.length secs A c A' n c' left b6 A7 c7 := by
  obtain ⟨h1, h2, h3, h4, h5, h6, h7, h8⟩ := h
  exact ⟨rfl, h1, h2, h3, h4, h5, h6, h7, h8⟩
set_option maxRecDepth 100000 in
set_option maxHeartbeats 3000000 in
theorem rsync_neg {secs : List (List UInt8)} {pend : List Wr} {left : Int} {w : World} {cs : List Value} (h : kDsk.K w (Old w) ⟨secs, pend, left, false⟩ cs) (hr : (Dsk.mk secs pend left false).runs = true) (hc : left < 0) :
    Calls Try.prog 24 #[.agg cs.toArray] w (DskE (syncD ⟨secs, pend, left, false⟩) (syncE ⟨secs, pend, left, false⟩) w) := by
  have H := Lib.hid h
  obtain ⟨A, c, A', c', rfl, hs, hpe, hl⟩ := kDsk_open h
  have HS := Lib.hid hs
  have HP := Lib.hid hpe
  have HL := Lib.hid hl
  have hsm := Nat.le_trans hs.le hs.max
  have hpm := Nat.le_trans hpe.le hpe.max
  unfold maxLen at hsm hpm
  clear h hs hpe hl
  simp only at hsm hpm HS HP HL H ⊢
  have HB := Lib.hid ((dsk_box w ⟨secs, pend, left, false⟩ A A' c c').below (below_box (Below.refl _ _) (.cells #[.slice none 0 0, .slice none 0 0, .int .i64 0, .bool false] 25)))
  have HV := Lib.hid (Blk.new (w.alloc (.cells #[.slice A secs.length c, .slice A' pend.length c', .int .i64 left, .bool false] 25)) 25 [.slice none 0 0, .slice none 0 0, .int .i64 0, .bool false])
  rw [World.size_alloc] at HV
  have HBW : Below w.heap.size w ((w.alloc (.cells #[.slice A secs.length c, .slice A' pend.length c', .int .i64 left, .bool false] 25)).alloc (.cells #[.slice none 0 0, .slice none 0 0, .int .i64 0, .bool false] 25)) := below_box (below_box (Below.refl _ _) _) _
  simp only at HB
  obtain ⟨⟨f1, f2, f3, f4⟩, _⟩ := HB.out.facts4
  have HZ : Hid (checkD ⟨secs, pend, left, false⟩ = 0) := checkD_ok (runs_facts hr).1
  have HRF := Lib.hid (valid_facts (runs_facts hr).1)
  have HWR := Lib.hid (valid_wr (runs_facts hr).1)
  have HSE := Lib.hid (valid_sec (runs_facts hr).1)
  have HR := Lib.hid hr
  have hrf := HRF.out
  simp only at hrf
  obtain ⟨r1, r2, r3, r4, r5⟩ := hrf
  clear hr
  have HST : Hid ((Dsk.mk secs pend left false).stops = false) := by
    show Dsk.stops _ = false
    rw [← Bool.not_eq_true, stops_eq]
    omega
  have HE := Lib.hid (sync_ok HR.out HST.out)
  go_enter Try.func24, Try.ntmps24
  go_wp2_with fail
  refine (rcheckD_as HZ.out (Kd.old H.out HBW)).mono ?_
  rintro e w1 ⟨rfl, hb1⟩
  obtain ⟨⟨e1, e2, e3, e4⟩, e5, e6, e7, e8⟩ := (HB.out.below hb1).facts4
  obtain ⟨⟨g1, g2, g3, g4⟩, g5, g6, g7, g8⟩ := (HV.out.below hb1).facts4
  have HB1 := Lib.hid (HB.out.below hb1)
  have HV1 := Lib.hid (HV.out.below hb1)
  have HBW1 := Lib.hid (below_then HBW hb1)
  have hs1 : w.heap.size + 2 ≤ w1.heap.size := by have a1 := hb1.size; rw [World.size_alloc, World.size_alloc] at a1; omega
  have HS1 := Lib.hid HS.out
  have KEEP0 : Hid (∀ w', Below w.heap.size w w' → Blk w' w.heap.size 25 [.slice A secs.length c, .slice A' pend.length c', .int .i64 left, .bool false] → (fun w' : World => Below w.heap.size w w' ∧ (w'.cell? ⟨w.heap.size, 0, none⟩ = some (.slice A secs.length c) ∧ w'.cell? ⟨w.heap.size, 1, none⟩ = some (.slice A' pend.length c') ∧ w'.cell? ⟨w.heap.size, 2, none⟩ = some (.int .i64 left) ∧ w'.cell? ⟨w.heap.size, 3, none⟩ = some (.bool false))) w') := fun w' hb hbk => ⟨hb, hbk.facts4.1⟩
  have KEEP1 := Lib.hid (KEEP0.out _ (below_then HBW1.out (below_drew (Below.refl _ _))) (HB1.out.below (below_drew (Below.refl _ _))))
  have KEEPA : Hid (∀ w' o, (fun w' : World => Below w.heap.size w w' ∧ (w'.cell? ⟨w.heap.size, 0, none⟩ = some (.slice A secs.length c) ∧ w'.cell? ⟨w.heap.size, 1, none⟩ = some (.slice A' pend.length c') ∧ w'.cell? ⟨w.heap.size, 2, none⟩ = some (.int .i64 left) ∧ w'.cell? ⟨w.heap.size, 3, none⟩ = some (.bool false))) w' → (fun w' : World => Below w.heap.size w w' ∧ (w'.cell? ⟨w.heap.size, 0, none⟩ = some (.slice A secs.length c) ∧ w'.cell? ⟨w.heap.size, 1, none⟩ = some (.slice A' pend.length c') ∧ w'.cell? ⟨w.heap.size, 2, none⟩ = some (.int .i64 left) ∧ w'.cell? ⟨w.heap.size, 3, none⟩ = some (.bool false))) (w'.alloc o)) := fun w' o h => by
    have hb := below_box (Below.refl w'.heap.size w') o
    exact ⟨below_then h.1 hb, keepcell hb h.2.1, keepcell hb h.2.2.1, keepcell hb h.2.2.2.1, keepcell hb h.2.2.2.2⟩
  have HBY : Hid ((([] : List (List UInt8)).length + secs.length) * 24 ≤ 140737488355328) := by show _ ≤ _; simp only [List.length_nil]; omega
  have z1 : Hid (w.heap.size + 2 ≤ (w1.alloc (.cells #[] 35)).drew.heap.size) := by show _ ≤ (w1.alloc (.cells #[] 35)).heap.size; rw [World.size_alloc]; omega
  have z2 : Hid (w.heap.size + 2 ≤ ((w1.alloc (.cells #[] 35)).alloc (.cells #[.slice none 0 0, .slice none 0 0, .int .i64 0, .bool false] 25)).drew.heap.size) := by show _ ≤ ((w1.alloc (.cells #[] 35)).alloc (.cells #[.slice none 0 0, .slice none 0 0, .int .i64 0, .bool false] 25)).heap.size; rw [World.size_alloc, World.size_alloc]; omega
  have z3 : Hid (w.heap.size + 2 ≤ ((w1.alloc (.cells #[.slice none 0 0, .slice none 0 0, .int .i64 0, .bool false] 25)).alloc (.cells #[] 35)).drew.heap.size) := by show _ ≤ ((w1.alloc (.cells #[.slice none 0 0, .slice none 0 0, .int .i64 0, .bool false] 25)).alloc (.cells #[] 35)).heap.size; rw [World.size_alloc, World.size_alloc]; omega
  have k1 := Blk.new w1 35 []
  have k3 := Blk.new (w1.alloc (.cells #[.slice none 0 0, .slice none 0 0, .int .i64 0, .bool false] 25)) 35 []
  rw [World.size_alloc] at k3
  have OA : Hid (Own kBytes 35 (w1.alloc (.cells #[] 35)).drew (w.heap.size + 2) (Old w) (.slice (some ⟨w1.heap.size, 0, none⟩) 0 0) []) := own_empty_at k1 hs1 (fun h => by have h' : w1.heap.size < w.heap.size := h; omega)
  have OB : Hid (Own kBytes 35 ((w1.alloc (.cells #[] 35)).alloc (.cells #[.slice none 0 0, .slice none 0 0, .int .i64 0, .bool false] 25)).drew (w.heap.size + 2) (Old w) (.slice (some ⟨w1.heap.size, 0, none⟩) 0 0) []) := own_empty_at (k1.below (below_drew (below_box (Below.refl _ _) _))) hs1 (fun h => by have h' : w1.heap.size < w.heap.size := h; omega)
  have OC : Hid (Own kBytes 35 ((w1.alloc (.cells #[.slice none 0 0, .slice none 0 0, .int .i64 0, .bool false] 25)).alloc (.cells #[] 35)).drew (w.heap.size + 2) (Old w) (.slice (some ⟨w1.heap.size + 1, 0, none⟩) 0 0) []) := own_empty_at k3 (by omega) (fun h => by have h' : w1.heap.size + 1 < w.heap.size := h; omega)
  have KEEPG : Hid (∀ w' w'' row, (fun w' : World => Below w.heap.size w w' ∧ (w'.cell? ⟨w.heap.size, 0, none⟩ = some (.slice A secs.length c) ∧ w'.cell? ⟨w.heap.size, 1, none⟩ = some (.slice A' pend.length c') ∧ w'.cell? ⟨w.heap.size, 2, none⟩ = some (.int .i64 left) ∧ w'.cell? ⟨w.heap.size, 3, none⟩ = some (.bool false))) w' → w'.grownBy w'' row → (∀ k, row = some k → w.heap.size + 2 ≤ k) → w.heap.size + 2 ≤ w'.heap.size → (fun w' : World => Below w.heap.size w w' ∧ (w'.cell? ⟨w.heap.size, 0, none⟩ = some (.slice A secs.length c) ∧ w'.cell? ⟨w.heap.size, 1, none⟩ = some (.slice A' pend.length c') ∧ w'.cell? ⟨w.heap.size, 2, none⟩ = some (.int .i64 left) ∧ w'.cell? ⟨w.heap.size, 3, none⟩ = some (.bool false))) w'') := fun w' w'' row h hg hr hz => by
    have hb : Below (w.heap.size + 2) w' w'' := (Below.refl _ _).grown hg hz hr
    have hc : ∀ i u, w'.cell? ⟨w.heap.size, i, none⟩ = some u → w''.cell? ⟨w.heap.size, i, none⟩ = some u := fun i u hu => (hb.cell (by show w.heap.size < w.heap.size + 2; omega)).trans hu
    exact ⟨h.1.grown hg (by omega) (fun k hk => by have := hr k hk; omega), hc _ _ h.2.1, hc _ _ h.2.2.1, hc _ _ h.2.2.2.1, hc _ _ h.2.2.2.2⟩
  have SA : Hid (SL kBytes (w1.alloc (.cells #[] 35)).drew (Old w) A c secs) := HS.out.below (below_then HBW1.out (below_drew (below_box (Below.refl _ _) _)))
  have SB : Hid (SL kBytes ((w1.alloc (.cells #[] 35)).alloc (.cells #[.slice none 0 0, .slice none 0 0, .int .i64 0, .bool false] 25)).drew (Old w) A c secs) := HS.out.below (below_then HBW1.out (below_drew (below_box (below_box (Below.refl _ _) _) _)))
  have SC : Hid (SL kBytes ((w1.alloc (.cells #[.slice none 0 0, .slice none 0 0, .int .i64 0, .bool false] 25)).alloc (.cells #[] 35)).drew (Old w) A c secs) := HS.out.below (below_then HBW1.out (below_drew (below_box (below_box (Below.refl _ _) _) _)))
  have FA : Hid (∀ k, Old w k → k < (w1.alloc (.cells #[] 35)).drew.heap.size) := fun k hk => by have h' : k < w.heap.size := hk; have := z1.out; omega
  have FB : Hid (∀ k, Old w k → k < ((w1.alloc (.cells #[] 35)).alloc (.cells #[.slice none 0 0, .slice none 0 0, .int .i64 0, .bool false] 25)).drew.heap.size) := fun k hk => by have h' : k < w.heap.size := hk; have := z2.out; omega
  have FC : Hid (∀ k, Old w k → k < ((w1.alloc (.cells #[.slice none 0 0, .slice none 0 0, .int .i64 0, .bool false] 25)).alloc (.cells #[] 35)).drew.heap.size) := fun k hk => by have h' : k < w.heap.size := hk; have := z3.out; omega
  have blkB := Lib.hid HB1.out
  have TA : Hid ((fun w' : World => Below w.heap.size w w' ∧ (w'.cell? ⟨w.heap.size, 0, none⟩ = some (.slice A secs.length c) ∧ w'.cell? ⟨w.heap.size, 1, none⟩ = some (.slice A' pend.length c') ∧ w'.cell? ⟨w.heap.size, 2, none⟩ = some (.int .i64 left) ∧ w'.cell? ⟨w.heap.size, 3, none⟩ = some (.bool false))) (w1.alloc (.cells #[] 35)).drew) := KEEP0.out _ (below_then HBW1.out (below_drew (below_box (Below.refl _ _) _))) (HB1.out.below (below_drew (below_box (Below.refl _ _) _)))
  have TB : Hid ((fun w' : World => Below w.heap.size w w' ∧ (w'.cell? ⟨w.heap.size, 0, none⟩ = some (.slice A secs.length c) ∧ w'.cell? ⟨w.heap.size, 1, none⟩ = some (.slice A' pend.length c') ∧ w'.cell? ⟨w.heap.size, 2, none⟩ = some (.int .i64 left) ∧ w'.cell? ⟨w.heap.size, 3, none⟩ = some (.bool false))) ((w1.alloc (.cells #[] 35)).alloc (.cells #[.slice none 0 0, .slice none 0 0, .int .i64 0, .bool false] 25)).drew) := KEEP0.out _ (below_then HBW1.out (below_drew (below_box (below_box (Below.refl _ _) _) _))) (HB1.out.below (below_drew (below_box (below_box (Below.refl _ _) _) _)))
  have TC : Hid ((fun w' : World => Below w.heap.size w w' ∧ (w'.cell? ⟨w.heap.size, 0, none⟩ = some (.slice A secs.length c) ∧ w'.cell? ⟨w.heap.size, 1, none⟩ = some (.slice A' pend.length c') ∧ w'.cell? ⟨w.heap.size, 2, none⟩ = some (.int .i64 left) ∧ w'.cell? ⟨w.heap.size, 3, none⟩ = some (.bool false))) ((w1.alloc (.cells #[.slice none 0 0, .slice none 0 0, .int .i64 0, .bool false] 25)).alloc (.cells #[] 35)).drew) := KEEP0.out _ (below_then HBW1.out (below_drew (below_box (below_box (Below.refl _ _) _) _))) (HB1.out.below (below_drew (below_box (below_box (Below.refl _ _) _) _)))
  have XA : Hid (Blk (w1.alloc (.cells #[] 35)).drew w.heap.size 25 [.slice A secs.length c, .slice A' pend.length c', .int .i64 left, .bool false] ∧ Blk (w1.alloc (.cells #[] 35)).drew (w.heap.size + 1) 25 [.slice none 0 0, .slice none 0 0, .int .i64 0, .bool false]) := ⟨HB1.out.below (below_drew (below_box (Below.refl _ _) _)), HV1.out.below (below_drew (below_box (Below.refl _ _) _))⟩
  have XB : Hid (Blk ((w1.alloc (.cells #[] 35)).alloc (.cells #[.slice none 0 0, .slice none 0 0, .int .i64 0, .bool false] 25)).drew w.heap.size 25 [.slice A secs.length c, .slice A' pend.length c', .int .i64 left, .bool false] ∧ Blk ((w1.alloc (.cells #[] 35)).alloc (.cells #[.slice none 0 0, .slice none 0 0, .int .i64 0, .bool false] 25)).drew (w.heap.size + 1) 25 [.slice none 0 0, .slice none 0 0, .int .i64 0, .bool false]) := ⟨HB1.out.below (below_drew (below_box (below_box (Below.refl _ _) _) _)), HV1.out.below (below_drew (below_box (below_box (Below.refl _ _) _) _))⟩
  have XC : Hid (Blk ((w1.alloc (.cells #[.slice none 0 0, .slice none 0 0, .int .i64 0, .bool false] 25)).alloc (.cells #[] 35)).drew w.heap.size 25 [.slice A secs.length c, .slice A' pend.length c', .int .i64 left, .bool false] ∧ Blk ((w1.alloc (.cells #[.slice none 0 0, .slice none 0 0, .int .i64 0, .bool false] 25)).alloc (.cells #[] 35)).drew (w.heap.size + 1) 25 [.slice none 0 0, .slice none 0 0, .int .i64 0, .bool false]) := ⟨HB1.out.below (below_drew (below_box (below_box (Below.refl _ _) _) _)), HV1.out.below (below_drew (below_box (below_box (Below.refl _ _) _) _))⟩
  have k4 := Blk.new (w1.alloc (.cells #[] 35)) 25 [.slice none 0 0, .slice none 0 0, .int .i64 0, .bool false]
  rw [World.size_alloc] at k4
  have UB : Hid (Blk ((w1.alloc (.cells #[] 35)).alloc (.cells #[.slice none 0 0, .slice none 0 0, .int .i64 0, .bool false] 25)).drew (w1.heap.size + 1) 25 [.slice none 0 0, .slice none 0 0, .int .i64 0, .bool false]) := k4
  have k5 := Blk.new w1 25 [.slice none 0 0, .slice none 0 0, .int .i64 0, .bool false]
  have UC : Hid (Blk ((w1.alloc (.cells #[.slice none 0 0, .slice none 0 0, .int .i64 0, .bool false] 25)).alloc (.cells #[] 35)).drew w1.heap.size 25 [.slice none 0 0, .slice none 0 0, .int .i64 0, .bool false]) := k5.below (below_drew (below_box (Below.refl _ _) _))
  have KEEPS : Hid (∀ w' b u0 u1 u2 u3, w.heap.size + 2 ≤ b → (fun w' : World => Below w.heap.size w w' ∧ (w'.cell? ⟨w.heap.size, 0, none⟩ = some (.slice A secs.length c) ∧ w'.cell? ⟨w.heap.size, 1, none⟩ = some (.slice A' pend.length c') ∧ w'.cell? ⟨w.heap.size, 2, none⟩ = some (.int .i64 left) ∧ w'.cell? ⟨w.heap.size, 3, none⟩ = some (.bool false))) w' → (fun w' : World => Below w.heap.size w w' ∧ (w'.cell? ⟨w.heap.size, 0, none⟩ = some (.slice A secs.length c) ∧ w'.cell? ⟨w.heap.size, 1, none⟩ = some (.slice A' pend.length c') ∧ w'.cell? ⟨w.heap.size, 2, none⟩ = some (.int .i64 left) ∧ w'.cell? ⟨w.heap.size, 3, none⟩ = some (.bool false))) ((((w'.setCell ⟨b, 0, none⟩ u0).setCell ⟨b, 1, none⟩ u1).setCell ⟨b, 2, none⟩ u2).setCell ⟨b, 3, none⟩ u3)) := fun w' b u0 u1 u2 u3 hb h => by
    have hne : ∀ i j, (⟨b, i, none⟩ : Addr).block ≠ (⟨w.heap.size, j, none⟩ : Addr).block := fun _ _ e => by have e' : b = w.heap.size := e; omega
    exact ⟨below_set4 h.1 (by omega) _ _ _ _, othercell (hne _ _) (othercell (hne _ _) (othercell (hne _ _) (othercell (hne _ _) h.2.1))), othercell (hne _ _) (othercell (hne _ _) (othercell (hne _ _) (othercell (hne _ _) h.2.2.1))), othercell (hne _ _) (othercell (hne _ _) (othercell (hne _ _) (othercell (hne _ _) h.2.2.2.1))), othercell (hne _ _) (othercell (hne _ _) (othercell (hne _ _) (othercell (hne _ _) h.2.2.2.2)))⟩
  clear k1 k3 k4 k5
  go_upto_region 7 with fail
  go_cut [6] (fun s6 wx => ∃ b6 A7 c7, s6 = .pointer (some ⟨b6, 0, none⟩) ∧ Hid (Met w wx secs A c A' pend.length c' left b6 A7 c7))
  case first =>
    go_region_held3 (fun w' : World => Below w.heap.size w w' ∧ (w'.cell? ⟨w.heap.size, 0, none⟩ = some (.slice A secs.length c) ∧ w'.cell? ⟨w.heap.size, 1, none⟩ = some (.slice A' pend.length c') ∧ w'.cell? ⟨w.heap.size, 2, none⟩ = some (.int .i64 left) ∧ w'.cell? ⟨w.heap.size, 3, none⟩ = some (.bool false))) (first | exact KEEP1.out | exact KEEPA.out _ _ (by assumption) | exact hS7 | exact KEEPA.out _ _ hS7 | exact KEEPS.out _ _ _ _ _ _ hs1 hS7 | exact KEEPS.out _ _ _ _ _ _ (Nat.le_succ_of_le hs1) hS7 | assumption) (first | (refine step_apps (w := (w1.alloc (.cells #[] 35)).drew) (o := ⟨some 35, _, _, _, _, _⟩) rfl (.tmp 32) (.tmp 34) _ rfl E_bytes OA.out rfl (ys := secs) A c rfl SA.out.row (fun _ _ _ h => h) FA.out HBY.out (by decide) z1.out ?_; intro v7 w7 hown7 hg7 hat7; obtain ⟨A7, c7, rfl, _, _⟩ := hown7.form; have hrow7 : ∀ k, (Value.slice (some ⟨w1.heap.size, 0, none⟩) 0 0).ownBlock = some k → w.heap.size + 2 ≤ k := (fun k hk => own_is hk ▸ (by omega)); have hS7 := KEEPG.out _ _ _ TA.out hg7 hrow7 z1.out; have hX7 := Lib.hid ((XA.out.1).grown hg7 (fun e => by have := hrow7 _ e; omega)); have hR7 := Lib.hid ((XA.out.2).grown hg7 (fun e => by have := hrow7 _ e; omega)); have hs7 := Nat.le_trans z1.out hg7.size; skip) | (refine step_apps (w := ((w1.alloc (.cells #[] 35)).alloc (.cells #[.slice none 0 0, .slice none 0 0, .int .i64 0, .bool false] 25)).drew) (o := ⟨some 35, _, _, _, _, _⟩) rfl (.tmp 32) (.tmp 34) _ rfl E_bytes OB.out rfl (ys := secs) A c rfl SB.out.row (fun _ _ _ h => h) FB.out HBY.out (by decide) z2.out ?_; intro v7 w7 hown7 hg7 hat7; obtain ⟨A7, c7, rfl, _, _⟩ := hown7.form; have hrow7 : ∀ k, (Value.slice (some ⟨w1.heap.size, 0, none⟩) 0 0).ownBlock = some k → w.heap.size + 2 ≤ k := (fun k hk => own_is hk ▸ (by omega)); have hS7 := KEEPG.out _ _ _ TB.out hg7 hrow7 z2.out; have hX7 := Lib.hid ((XB.out.1).grown hg7 (fun e => by have := hrow7 _ e; omega)); have hR7 := Lib.hid ((XB.out.2).grown hg7 (fun e => by have := hrow7 _ e; omega)); have hs7 := Nat.le_trans z2.out hg7.size; obtain ⟨⟨y1, y2, y3, y4⟩, y5, y6, y7, y8⟩ := (UB.out.grown hg7 (by simp [Value.ownBlock])).facts4; have hU7 := Lib.hid (UB.out.grown hg7 (by simp [Value.ownBlock]))) | (refine step_apps (w := ((w1.alloc (.cells #[.slice none 0 0, .slice none 0 0, .int .i64 0, .bool false] 25)).alloc (.cells #[] 35)).drew) (o := ⟨some 35, _, _, _, _, _⟩) rfl (.tmp 32) (.tmp 34) _ rfl E_bytes OC.out rfl (ys := secs) A c rfl SC.out.row (fun _ _ _ h => h) FC.out HBY.out (by decide) z3.out ?_; intro v7 w7 hown7 hg7 hat7; obtain ⟨A7, c7, rfl, _, _⟩ := hown7.form; have hrow7 : ∀ k, (Value.slice (some ⟨w1.heap.size + 1, 0, none⟩) 0 0).ownBlock = some k → w.heap.size + 2 ≤ k := (fun k hk => own_is hk ▸ (by omega)); have hS7 := KEEPG.out _ _ _ TC.out hg7 hrow7 z3.out; have hX7 := Lib.hid ((XC.out.1).grown hg7 (fun e => by have := hrow7 _ e; omega)); have hR7 := Lib.hid ((XC.out.2).grown hg7 (fun e => by have := hrow7 _ e; omega)); have hs7 := Nat.le_trans z3.out hg7.size; obtain ⟨⟨y1, y2, y3, y4⟩, y5, y6, y7, y8⟩ := (UC.out.grown hg7 (by simp [Value.ownBlock])).facts4; have hU7 := Lib.hid (UC.out.grown hg7 (by simp [Value.ownBlock]))))
    all_goals
      go_wp2
      go_meet
      first
        | exact ⟨_, A7, c7, rfl, met_new hown7 hX7.out hR7.out hS7.1 hs7⟩
        | exact ⟨_, A7, c7, rfl, met_old hown7 hX7.out hR7.out hS7.1 hs7 (by omega) hU7.out rfl (fun k hk => hat7.elim (fun ha => by have h1 := own_is (ha ▸ hk : (Value.slice (some ⟨_, 0, none⟩) 0 0).ownBlock = some k); omega) (fun ha => by have h2 : (World.alloc (World.alloc w1 _) _).heap.size ≤ k := ha k hk; rw [World.size_alloc, World.size_alloc] at h2; omega))⟩
  case rest =>
    obtain ⟨b6, A7, c7, rfl, hMet⟩ := hcut
    have hP0 := Lib.hid (met_p hMet.out)
    clear hMet HB1 HV1 HBW1 HS1 KEEP0 KEEP1 KEEPA KEEPG KEEPS HBY z1 z2 z3 OA OB OC SA SB SC FA FB FC blkB TA TB TC XA XB XC UB UC
    clear e1 e2 e3 e4 e5 e6 e7 e8 g1 g2 g3 g4 g5 g6 g7 g8 f1 f2 f3 f4
    have hP1 := hP0
    go_wp2_with fail
    go_loopw [7] (fun i' wr => ∃ i : Nat, i' = .int .i64 i ∧ i ≤ pend.length ∧ Hid (MetP w wr secs.length (performD (pend.take i) secs) A c A' pend.length c' left b6 A7 c7)) (fun i' _ => pend.length - (intOf i').toNat)
    case atStart => exact ⟨0, rfl, Nat.zero_le _, hP0⟩
    case round =>
      obtain ⟨i, rfl, hi, hP⟩ := hrel
      clear hP1
      obtain ⟨p1, p2, p3, p4, p5, p6, p7, p8, p9⟩ := hP.out
      obtain ⟨q1, q2, q3, q4⟩ := p3.facts4.1
      obtain ⟨u1, u2, u3, u4⟩ := p6.facts4.1
      have P3 := Lib.hid p3
      have P4 := Lib.hid p4
      have P5 := Lib.hid p5
      have P6 := Lib.hid p6
      have P7 := Lib.hid p7
      have P8 := Lib.hid p8
      clear p1 p3 p4 p5 p6 p7 p8 hP
      by_cases hin : i < pend.length
      · have hin2 : i < pend.length := by omega
        obtain ⟨ad, A1, c1', rfl, x0, x1, hpos, hsl⟩ := wr_at (HP.out.below P8.out) hin2
        obtain ⟨o1, o2, o3⟩ := HWR.out pend[i] (List.getElem_mem hin2)
        obtain ⟨j, hj⟩ : ∃ j : Nat, pend[i].pos = (j : Int) := ⟨pend[i].pos.toNat, by omega⟩
        rw [hj] at x0 o1 o2
        have hjl : j < (performD (pend.take i) secs).length := by rw [length_performD]; omega
        have hK : kBytes.K wr (Old w) pend[i].data [.slice A1 pend[i].data.length c1'] := ⟨A1, c1', rfl, hsl⟩
        obtain ⟨g7, cap7, cur7, hv7, hg7, hF7, _⟩ := P4.out.block1 rfl (fun e => by rw [e] at hjl; cases hjl)
        rw [length_performD] at hv7
        injection hv7 with hv7 _ hc7
        subst hv7; subst hc7
        have hb67 : g7 ≠ b6 := P5.out g7 rfl
        obtain ⟨y1, y2, ⟨yu, y3⟩, y4, y5⟩ := P4.out.set1_at rfl hjl hK
        have HO7 := Lib.hid y5
        have HTK := Lib.hid (performD_take (s := secs) hin2)
        have hjn : pend[i].pos.toNat = j := by rw [hj]; rfl
        rw [hjn] at HTK
        have hji : (j : Int) < (secs.length : Int) := by omega
        have hli : (i : Int) < (pend.length : Int) := by omega
        obtain ⟨mi, hmi⟩ : ∃ m, pend[i].data.length = m := ⟨_, rfl⟩
        rw [hmi] at x1 HO7
        have hw0 : (⟨g7, j, none⟩ : Addr).block ≠ (⟨b6, 0, none⟩ : Addr).block := hb67
        have hpa : ∀ o : Nat, (⟨g7, j, none⟩ : Addr).block ≠ (⟨w.heap.size, o, none⟩ : Addr).block := fun o e => by have e' : g7 = w.heap.size := e; omega
        have hadl : (ad.add (i * 2)).block < w.heap.size := by
          obtain ⟨ad', cs', e', hF', _⟩ := HP.out.row.at_ hin2
          injection e' with e'
          subst e'
          rw [block_add]; exact hF'
        have KEEP1 : Hid ((fun w' : World => Below w.heap.size w w' ∧ ((w'.cell? ⟨b6, 0, none⟩ = some (.slice (some ⟨g7, 0, none⟩) secs.length c7) ∧ w'.cell? ⟨b6, 1, none⟩ = some (.slice none 0 0) ∧ w'.cell? ⟨b6, 2, none⟩ = some (.int .i64 left) ∧ w'.cell? ⟨b6, 3, none⟩ = some (.bool false))) ∧ ((w'.cell? ⟨w.heap.size, 0, none⟩ = some (.slice A secs.length c) ∧ w'.cell? ⟨w.heap.size, 1, none⟩ = some (.slice (some ad) pend.length c') ∧ w'.cell? ⟨w.heap.size, 2, none⟩ = some (.int .i64 left) ∧ w'.cell? ⟨w.heap.size, 3, none⟩ = some (.bool false))) ∧ w'.cell? (ad.add (i * 2)) = some (.int .i64 j) ∧ w'.cell? ⟨(ad.add (i * 2)).block, (ad.add (i * 2)).off + 1, none⟩ = some (.slice A1 mi c1')) wr.drew) := ⟨below_then P8.out (below_drew (Below.refl _ _)), ⟨q1, q2, q3, q4⟩, ⟨u1, u2, u3, u4⟩, x0, x1⟩
        have KEEP2 : Hid ((fun w' : World => Below w.heap.size w w' ∧ ((w'.cell? ⟨b6, 0, none⟩ = some (.slice (some ⟨g7, 0, none⟩) secs.length c7) ∧ w'.cell? ⟨b6, 1, none⟩ = some (.slice none 0 0) ∧ w'.cell? ⟨b6, 2, none⟩ = some (.int .i64 left) ∧ w'.cell? ⟨b6, 3, none⟩ = some (.bool false))) ∧ ((w'.cell? ⟨w.heap.size, 0, none⟩ = some (.slice A secs.length c) ∧ w'.cell? ⟨w.heap.size, 1, none⟩ = some (.slice (some ad) pend.length c') ∧ w'.cell? ⟨w.heap.size, 2, none⟩ = some (.int .i64 left) ∧ w'.cell? ⟨w.heap.size, 3, none⟩ = some (.bool false))) ∧ w'.cell? (ad.add (i * 2)) = some (.int .i64 j) ∧ w'.cell? ⟨(ad.add (i * 2)).block, (ad.add (i * 2)).off + 1, none⟩ = some (.slice A1 mi c1')) (wr.setCell ⟨g7, j, none⟩ (.slice A1 mi c1')).drew) := ⟨below_drew (P8.out.setCell (by show w.heap.size ≤ g7; omega) _), ⟨othercell hb67 q1, othercell hb67 q2, othercell hb67 q3, othercell hb67 q4⟩, ⟨othercell (hpa 0) u1, othercell (hpa 1) u2, othercell (hpa 2) u3, othercell (hpa 3) u4⟩, othercell (fun e => by have e' : g7 = (ad.add (i * 2)).block := e; omega) x0, othercell (fun e => by have e' : g7 = (ad.add (i * 2)).block := e; omega) x1⟩
        have HX : Hid (MetP w (wr.setCell ⟨g7, j, none⟩ (.slice A1 mi c1')).drew secs.length (performD (pend.take (i + 1)) secs) A c (some ad) pend.length c' left b6 (some ⟨g7, 0, none⟩) c7) := by
          refine ⟨by rw [length_performD], p2, (P3.out.other (fun e => hb67 e.symm)).below (below_drew (Below.refl _ _)), ?_, P5.out, (P6.out.other (by omega)).below (below_drew (Below.refl _ _)), (P7.out.other (by omega)).below (below_drew (Below.refl _ _)), below_drew (P8.out.setCell (by show w.heap.size ≤ g7; omega) _), by show _ ≤ (wr.setCell _ _).heap.size; simpa [World.setCell] using p9⟩
          rw [HTK.out]
          have h7 := HO7.out.below (below_drew (Below.refl _ _))
          have e7 : pend[i].data.length = mi := hmi
          exact h7
        clear hpos hsl hK y5 hmi hj hjn
        go_wp2_with fail
        go_region_held3 (fun w' : World => Below w.heap.size w w' ∧ ((w'.cell? ⟨b6, 0, none⟩ = some (.slice (some ⟨g7, 0, none⟩) secs.length c7) ∧ w'.cell? ⟨b6, 1, none⟩ = some (.slice none 0 0) ∧ w'.cell? ⟨b6, 2, none⟩ = some (.int .i64 left) ∧ w'.cell? ⟨b6, 3, none⟩ = some (.bool false))) ∧ ((w'.cell? ⟨w.heap.size, 0, none⟩ = some (.slice A secs.length c) ∧ w'.cell? ⟨w.heap.size, 1, none⟩ = some (.slice (some ad) pend.length c') ∧ w'.cell? ⟨w.heap.size, 2, none⟩ = some (.int .i64 left) ∧ w'.cell? ⟨w.heap.size, 3, none⟩ = some (.bool false))) ∧ w'.cell? (ad.add (i * 2)) = some (.int .i64 j) ∧ w'.cell? ⟨(ad.add (i * 2)).block, (ad.add (i * 2)).off + 1, none⟩ = some (.slice A1 mi c1')) (first | exact KEEP1.out | exact KEEP2.out) (fail)
        go_wp2
        go_roundw
        case rel => exact ⟨i + 1, by go_num, by omega, HX⟩
        case measure => simp [intOf]; omega
      · obtain rfl : i = pend.length := by omega
        rw [List.take_length] at P4
        have hsl := P4.out.sl (F' := fun k => (k < w.heap.size ∨ w.heap.size + 2 ≤ k) ∧ k ≠ b6) (fun k hk _ => ⟨.inl hk, fun e => by have hk' : k < w.heap.size := hk; omega⟩) (fun k hk => ⟨.inr (P4.out.lt k hk).1, P5.out k hk⟩)
        obtain ⟨A9, c9, e9, h9⟩ := hsl
        rw [length_performD] at e9
        injection e9 with e9 _ e10
        subst e9; subst e10
        have H9 := Lib.hid h9
        have hF9 : ¬ ((fun k => (k < w.heap.size ∨ w.heap.size + 2 ≤ k) ∧ k ≠ b6) (w.heap.size + 1)) := fun h => by rcases h.1 with h | h <;> omega
        have hF6 : ¬ ((fun k => (k < w.heap.size ∨ w.heap.size + 2 ≤ k) ∧ k ≠ b6) b6) := fun h => h.2 rfl
        obtain ⟨v1, v2, v3, v4⟩ := P7.out.facts4.1
        obtain ⟨v5, v6, v7, v8⟩ := P7.out.facts4.2
        clear h9 hin
        go_wp2
        rw [HE.out.1, HE.out.2]
        have hK := kDsk_is (d := ⟨performD pend secs, [], if 0 ≤ left then left - pend.length else left, false⟩) (l := left) H9.out (SL.nil (A := none) (c := 0) (Nat.zero_le _)) (by show I64 (if 0 ≤ left then left - pend.length else left); rw [if_neg (by omega)]; exact HL.out) (length_performD pend secs).symm rfl (by show left = if 0 ≤ left then left - pend.length else left; rw [if_neg (by omega)]) rfl
        exact dskE_leave rfl P7.out rfl hK hF9 P8.out (by omega) rfl rfl
set_option maxRecDepth 100000 in
set_option maxHeartbeats 3000000 in
theorem rsync_pos {secs : List (List UInt8)} {pend : List Wr} {left : Int} {w : World} {cs : List Value} (h : kDsk.K w (Old w) ⟨secs, pend, left, false⟩ cs) (hr : (Dsk.mk secs pend left false).runs = true) (hc : 0 ≤ left) (hc' : (pend.length : Int) ≤ left) :
    Calls Try.prog 24 #[.agg cs.toArray] w (DskE (syncD ⟨secs, pend, left, false⟩) (syncE ⟨secs, pend, left, false⟩) w) := by
  have H := Lib.hid h
  obtain ⟨A, c, A', c', rfl, hs, hpe, hl⟩ := kDsk_open h
  have HS := Lib.hid hs
  have HP := Lib.hid hpe
  have HL := Lib.hid hl
  have hsm := Nat.le_trans hs.le hs.max
  have hpm := Nat.le_trans hpe.le hpe.max
  unfold maxLen at hsm hpm
  clear h hs hpe hl
  simp only at hsm hpm HS HP HL H ⊢
  have HB := Lib.hid ((dsk_box w ⟨secs, pend, left, false⟩ A A' c c').below (below_box (Below.refl _ _) (.cells #[.slice none 0 0, .slice none 0 0, .int .i64 0, .bool false] 25)))
  have HV := Lib.hid (Blk.new (w.alloc (.cells #[.slice A secs.length c, .slice A' pend.length c', .int .i64 left, .bool false] 25)) 25 [.slice none 0 0, .slice none 0 0, .int .i64 0, .bool false])
  rw [World.size_alloc] at HV
  have HBW : Below w.heap.size w ((w.alloc (.cells #[.slice A secs.length c, .slice A' pend.length c', .int .i64 left, .bool false] 25)).alloc (.cells #[.slice none 0 0, .slice none 0 0, .int .i64 0, .bool false] 25)) := below_box (below_box (Below.refl _ _) _) _
  simp only at HB
  obtain ⟨⟨f1, f2, f3, f4⟩, _⟩ := HB.out.facts4
  have HZ : Hid (checkD ⟨secs, pend, left, false⟩ = 0) := checkD_ok (runs_facts hr).1
  have HRF := Lib.hid (valid_facts (runs_facts hr).1)
  have HWR := Lib.hid (valid_wr (runs_facts hr).1)
  have HSE := Lib.hid (valid_sec (runs_facts hr).1)
  have HR := Lib.hid hr
  have hrf := HRF.out
  simp only at hrf
  obtain ⟨r1, r2, r3, r4, r5⟩ := hrf
  clear hr
  have HST : Hid ((Dsk.mk secs pend left false).stops = false) := by
    show Dsk.stops _ = false
    rw [← Bool.not_eq_true, stops_eq]
    omega
  have HE := Lib.hid (sync_ok HR.out HST.out)
  go_enter Try.func24, Try.ntmps24
  go_wp2_with fail
  refine (rcheckD_as HZ.out (Kd.old H.out HBW)).mono ?_
  rintro e w1 ⟨rfl, hb1⟩
  obtain ⟨⟨e1, e2, e3, e4⟩, e5, e6, e7, e8⟩ := (HB.out.below hb1).facts4
  obtain ⟨⟨g1, g2, g3, g4⟩, g5, g6, g7, g8⟩ := (HV.out.below hb1).facts4
  have HB1 := Lib.hid (HB.out.below hb1)
  have HV1 := Lib.hid (HV.out.below hb1)
  have HBW1 := Lib.hid (below_then HBW hb1)
  have hs1 : w.heap.size + 2 ≤ w1.heap.size := by have a1 := hb1.size; rw [World.size_alloc, World.size_alloc] at a1; omega
  have HS1 := Lib.hid HS.out
  have KEEP0 : Hid (∀ w', Below w.heap.size w w' → Blk w' w.heap.size 25 [.slice A secs.length c, .slice A' pend.length c', .int .i64 left, .bool false] → (fun w' : World => Below w.heap.size w w' ∧ (w'.cell? ⟨w.heap.size, 0, none⟩ = some (.slice A secs.length c) ∧ w'.cell? ⟨w.heap.size, 1, none⟩ = some (.slice A' pend.length c') ∧ w'.cell? ⟨w.heap.size, 2, none⟩ = some (.int .i64 left) ∧ w'.cell? ⟨w.heap.size, 3, none⟩ = some (.bool false))) w') := fun w' hb hbk => ⟨hb, hbk.facts4.1⟩
  have KEEP1 := Lib.hid (KEEP0.out _ (below_then HBW1.out (below_drew (Below.refl _ _))) (HB1.out.below (below_drew (Below.refl _ _))))
  have KEEPA : Hid (∀ w' o, (fun w' : World => Below w.heap.size w w' ∧ (w'.cell? ⟨w.heap.size, 0, none⟩ = some (.slice A secs.length c) ∧ w'.cell? ⟨w.heap.size, 1, none⟩ = some (.slice A' pend.length c') ∧ w'.cell? ⟨w.heap.size, 2, none⟩ = some (.int .i64 left) ∧ w'.cell? ⟨w.heap.size, 3, none⟩ = some (.bool false))) w' → (fun w' : World => Below w.heap.size w w' ∧ (w'.cell? ⟨w.heap.size, 0, none⟩ = some (.slice A secs.length c) ∧ w'.cell? ⟨w.heap.size, 1, none⟩ = some (.slice A' pend.length c') ∧ w'.cell? ⟨w.heap.size, 2, none⟩ = some (.int .i64 left) ∧ w'.cell? ⟨w.heap.size, 3, none⟩ = some (.bool false))) (w'.alloc o)) := fun w' o h => by
    have hb := below_box (Below.refl w'.heap.size w') o
    exact ⟨below_then h.1 hb, keepcell hb h.2.1, keepcell hb h.2.2.1, keepcell hb h.2.2.2.1, keepcell hb h.2.2.2.2⟩
  have HBY : Hid ((([] : List (List UInt8)).length + secs.length) * 24 ≤ 140737488355328) := by show _ ≤ _; simp only [List.length_nil]; omega
  have z1 : Hid (w.heap.size + 2 ≤ (w1.alloc (.cells #[] 35)).drew.heap.size) := by show _ ≤ (w1.alloc (.cells #[] 35)).heap.size; rw [World.size_alloc]; omega
  have z2 : Hid (w.heap.size + 2 ≤ ((w1.alloc (.cells #[] 35)).alloc (.cells #[.slice none 0 0, .slice none 0 0, .int .i64 0, .bool false] 25)).drew.heap.size) := by show _ ≤ ((w1.alloc (.cells #[] 35)).alloc (.cells #[.slice none 0 0, .slice none 0 0, .int .i64 0, .bool false] 25)).heap.size; rw [World.size_alloc, World.size_alloc]; omega
  have z3 : Hid (w.heap.size + 2 ≤ ((w1.alloc (.cells #[.slice none 0 0, .slice none 0 0, .int .i64 0, .bool false] 25)).alloc (.cells #[] 35)).drew.heap.size) := by show _ ≤ ((w1.alloc (.cells #[.slice none 0 0, .slice none 0 0, .int .i64 0, .bool false] 25)).alloc (.cells #[] 35)).heap.size; rw [World.size_alloc, World.size_alloc]; omega
  have k1 := Blk.new w1 35 []
  have k3 := Blk.new (w1.alloc (.cells #[.slice none 0 0, .slice none 0 0, .int .i64 0, .bool false] 25)) 35 []
  rw [World.size_alloc] at k3
  have OA : Hid (Own kBytes 35 (w1.alloc (.cells #[] 35)).drew (w.heap.size + 2) (Old w) (.slice (some ⟨w1.heap.size, 0, none⟩) 0 0) []) := own_empty_at k1 hs1 (fun h => by have h' : w1.heap.size < w.heap.size := h; omega)
  have OB : Hid (Own kBytes 35 ((w1.alloc (.cells #[] 35)).alloc (.cells #[.slice none 0 0, .slice none 0 0, .int .i64 0, .bool false] 25)).drew (w.heap.size + 2) (Old w) (.slice (some ⟨w1.heap.size, 0, none⟩) 0 0) []) := own_empty_at (k1.below (below_drew (below_box (Below.refl _ _) _))) hs1 (fun h => by have h' : w1.heap.size < w.heap.size := h; omega)
  have OC : Hid (Own kBytes 35 ((w1.alloc (.cells #[.slice none 0 0, .slice none 0 0, .int .i64 0, .bool false] 25)).alloc (.cells #[] 35)).drew (w.heap.size + 2) (Old w) (.slice (some ⟨w1.heap.size + 1, 0, none⟩) 0 0) []) := own_empty_at k3 (by omega) (fun h => by have h' : w1.heap.size + 1 < w.heap.size := h; omega)
  have KEEPG : Hid (∀ w' w'' row, (fun w' : World => Below w.heap.size w w' ∧ (w'.cell? ⟨w.heap.size, 0, none⟩ = some (.slice A secs.length c) ∧ w'.cell? ⟨w.heap.size, 1, none⟩ = some (.slice A' pend.length c') ∧ w'.cell? ⟨w.heap.size, 2, none⟩ = some (.int .i64 left) ∧ w'.cell? ⟨w.heap.size, 3, none⟩ = some (.bool false))) w' → w'.grownBy w'' row → (∀ k, row = some k → w.heap.size + 2 ≤ k) → w.heap.size + 2 ≤ w'.heap.size → (fun w' : World => Below w.heap.size w w' ∧ (w'.cell? ⟨w.heap.size, 0, none⟩ = some (.slice A secs.length c) ∧ w'.cell? ⟨w.heap.size, 1, none⟩ = some (.slice A' pend.length c') ∧ w'.cell? ⟨w.heap.size, 2, none⟩ = some (.int .i64 left) ∧ w'.cell? ⟨w.heap.size, 3, none⟩ = some (.bool false))) w'') := fun w' w'' row h hg hr hz => by
    have hb : Below (w.heap.size + 2) w' w'' := (Below.refl _ _).grown hg hz hr
    have hc : ∀ i u, w'.cell? ⟨w.heap.size, i, none⟩ = some u → w''.cell? ⟨w.heap.size, i, none⟩ = some u := fun i u hu => (hb.cell (by show w.heap.size < w.heap.size + 2; omega)).trans hu
    exact ⟨h.1.grown hg (by omega) (fun k hk => by have := hr k hk; omega), hc _ _ h.2.1, hc _ _ h.2.2.1, hc _ _ h.2.2.2.1, hc _ _ h.2.2.2.2⟩
  have SA : Hid (SL kBytes (w1.alloc (.cells #[] 35)).drew (Old w) A c secs) := HS.out.below (below_then HBW1.out (below_drew (below_box (Below.refl _ _) _)))
  have SB : Hid (SL kBytes ((w1.alloc (.cells #[] 35)).alloc (.cells #[.slice none 0 0, .slice none 0 0, .int .i64 0, .bool false] 25)).drew (Old w) A c secs) := HS.out.below (below_then HBW1.out (below_drew (below_box (below_box (Below.refl _ _) _) _)))
  have SC : Hid (SL kBytes ((w1.alloc (.cells #[.slice none 0 0, .slice none 0 0, .int .i64 0, .bool false] 25)).alloc (.cells #[] 35)).drew (Old w) A c secs) := HS.out.below (below_then HBW1.out (below_drew (below_box (below_box (Below.refl _ _) _) _)))
  have FA : Hid (∀ k, Old w k → k < (w1.alloc (.cells #[] 35)).drew.heap.size) := fun k hk => by have h' : k < w.heap.size := hk; have := z1.out; omega
  have FB : Hid (∀ k, Old w k → k < ((w1.alloc (.cells #[] 35)).alloc (.cells #[.slice none 0 0, .slice none 0 0, .int .i64 0, .bool false] 25)).drew.heap.size) := fun k hk => by have h' : k < w.heap.size := hk; have := z2.out; omega
  have FC : Hid (∀ k, Old w k → k < ((w1.alloc (.cells #[.slice none 0 0, .slice none 0 0, .int .i64 0, .bool false] 25)).alloc (.cells #[] 35)).drew.heap.size) := fun k hk => by have h' : k < w.heap.size := hk; have := z3.out; omega
  have blkB := Lib.hid HB1.out
  have TA : Hid ((fun w' : World => Below w.heap.size w w' ∧ (w'.cell? ⟨w.heap.size, 0, none⟩ = some (.slice A secs.length c) ∧ w'.cell? ⟨w.heap.size, 1, none⟩ = some (.slice A' pend.length c') ∧ w'.cell? ⟨w.heap.size, 2, none⟩ = some (.int .i64 left) ∧ w'.cell? ⟨w.heap.size, 3, none⟩ = some (.bool false))) (w1.alloc (.cells #[] 35)).drew) := KEEP0.out _ (below_then HBW1.out (below_drew (below_box (Below.refl _ _) _))) (HB1.out.below (below_drew (below_box (Below.refl _ _) _)))
  have TB : Hid ((fun w' : World => Below w.heap.size w w' ∧ (w'.cell? ⟨w.heap.size, 0, none⟩ = some (.slice A secs.length c) ∧ w'.cell? ⟨w.heap.size, 1, none⟩ = some (.slice A' pend.length c') ∧ w'.cell? ⟨w.heap.size, 2, none⟩ = some (.int .i64 left) ∧ w'.cell? ⟨w.heap.size, 3, none⟩ = some (.bool false))) ((w1.alloc (.cells #[] 35)).alloc (.cells #[.slice none 0 0, .slice none 0 0, .int .i64 0, .bool false] 25)).drew) := KEEP0.out _ (below_then HBW1.out (below_drew (below_box (below_box (Below.refl _ _) _) _))) (HB1.out.below (below_drew (below_box (below_box (Below.refl _ _) _) _)))
  have TC : Hid ((fun w' : World => Below w.heap.size w w' ∧ (w'.cell? ⟨w.heap.size, 0, none⟩ = some (.slice A secs.length c) ∧ w'.cell? ⟨w.heap.size, 1, none⟩ = some (.slice A' pend.length c') ∧ w'.cell? ⟨w.heap.size, 2, none⟩ = some (.int .i64 left) ∧ w'.cell? ⟨w.heap.size, 3, none⟩ = some (.bool false))) ((w1.alloc (.cells #[.slice none 0 0, .slice none 0 0, .int .i64 0, .bool false] 25)).alloc (.cells #[] 35)).drew) := KEEP0.out _ (below_then HBW1.out (below_drew (below_box (below_box (Below.refl _ _) _) _))) (HB1.out.below (below_drew (below_box (below_box (Below.refl _ _) _) _)))
  have XA : Hid (Blk (w1.alloc (.cells #[] 35)).drew w.heap.size 25 [.slice A secs.length c, .slice A' pend.length c', .int .i64 left, .bool false] ∧ Blk (w1.alloc (.cells #[] 35)).drew (w.heap.size + 1) 25 [.slice none 0 0, .slice none 0 0, .int .i64 0, .bool false]) := ⟨HB1.out.below (below_drew (below_box (Below.refl _ _) _)), HV1.out.below (below_drew (below_box (Below.refl _ _) _))⟩
  have XB : Hid (Blk ((w1.alloc (.cells #[] 35)).alloc (.cells #[.slice none 0 0, .slice none 0 0, .int .i64 0, .bool false] 25)).drew w.heap.size 25 [.slice A secs.length c, .slice A' pend.length c', .int .i64 left, .bool false] ∧ Blk ((w1.alloc (.cells #[] 35)).alloc (.cells #[.slice none 0 0, .slice none 0 0, .int .i64 0, .bool false] 25)).drew (w.heap.size + 1) 25 [.slice none 0 0, .slice none 0 0, .int .i64 0, .bool false]) := ⟨HB1.out.below (below_drew (below_box (below_box (Below.refl _ _) _) _)), HV1.out.below (below_drew (below_box (below_box (Below.refl _ _) _) _))⟩
  have XC : Hid (Blk ((w1.alloc (.cells #[.slice none 0 0, .slice none 0 0, .int .i64 0, .bool false] 25)).alloc (.cells #[] 35)).drew w.heap.size 25 [.slice A secs.length c, .slice A' pend.length c', .int .i64 left, .bool false] ∧ Blk ((w1.alloc (.cells #[.slice none 0 0, .slice none 0 0, .int .i64 0, .bool false] 25)).alloc (.cells #[] 35)).drew (w.heap.size + 1) 25 [.slice none 0 0, .slice none 0 0, .int .i64 0, .bool false]) := ⟨HB1.out.below (below_drew (below_box (below_box (Below.refl _ _) _) _)), HV1.out.below (below_drew (below_box (below_box (Below.refl _ _) _) _))⟩
  have k4 := Blk.new (w1.alloc (.cells #[] 35)) 25 [.slice none 0 0, .slice none 0 0, .int .i64 0, .bool false]
  rw [World.size_alloc] at k4
  have UB : Hid (Blk ((w1.alloc (.cells #[] 35)).alloc (.cells #[.slice none 0 0, .slice none 0 0, .int .i64 0, .bool false] 25)).drew (w1.heap.size + 1) 25 [.slice none 0 0, .slice none 0 0, .int .i64 0, .bool false]) := k4
  have k5 := Blk.new w1 25 [.slice none 0 0, .slice none 0 0, .int .i64 0, .bool false]
  have UC : Hid (Blk ((w1.alloc (.cells #[.slice none 0 0, .slice none 0 0, .int .i64 0, .bool false] 25)).alloc (.cells #[] 35)).drew w1.heap.size 25 [.slice none 0 0, .slice none 0 0, .int .i64 0, .bool false]) := k5.below (below_drew (below_box (Below.refl _ _) _))
  have KEEPS : Hid (∀ w' b u0 u1 u2 u3, w.heap.size + 2 ≤ b → (fun w' : World => Below w.heap.size w w' ∧ (w'.cell? ⟨w.heap.size, 0, none⟩ = some (.slice A secs.length c) ∧ w'.cell? ⟨w.heap.size, 1, none⟩ = some (.slice A' pend.length c') ∧ w'.cell? ⟨w.heap.size, 2, none⟩ = some (.int .i64 left) ∧ w'.cell? ⟨w.heap.size, 3, none⟩ = some (.bool false))) w' → (fun w' : World => Below w.heap.size w w' ∧ (w'.cell? ⟨w.heap.size, 0, none⟩ = some (.slice A secs.length c) ∧ w'.cell? ⟨w.heap.size, 1, none⟩ = some (.slice A' pend.length c') ∧ w'.cell? ⟨w.heap.size, 2, none⟩ = some (.int .i64 left) ∧ w'.cell? ⟨w.heap.size, 3, none⟩ = some (.bool false))) ((((w'.setCell ⟨b, 0, none⟩ u0).setCell ⟨b, 1, none⟩ u1).setCell ⟨b, 2, none⟩ u2).setCell ⟨b, 3, none⟩ u3)) := fun w' b u0 u1 u2 u3 hb h => by
    have hne : ∀ i j, (⟨b, i, none⟩ : Addr).block ≠ (⟨w.heap.size, j, none⟩ : Addr).block := fun _ _ e => by have e' : b = w.heap.size := e; omega
    exact ⟨below_set4 h.1 (by omega) _ _ _ _, othercell (hne _ _) (othercell (hne _ _) (othercell (hne _ _) (othercell (hne _ _) h.2.1))), othercell (hne _ _) (othercell (hne _ _) (othercell (hne _ _) (othercell (hne _ _) h.2.2.1))), othercell (hne _ _) (othercell (hne _ _) (othercell (hne _ _) (othercell (hne _ _) h.2.2.2.1))), othercell (hne _ _) (othercell (hne _ _) (othercell (hne _ _) (othercell (hne _ _) h.2.2.2.2)))⟩
  clear k1 k3 k4 k5
  go_upto_region 7 with fail
  go_cut [6] (fun s6 wx => ∃ b6 A7 c7, s6 = .pointer (some ⟨b6, 0, none⟩) ∧ Hid (Met w wx secs A c A' pend.length c' left b6 A7 c7))
  case first =>
    go_region_held3 (fun w' : World => Below w.heap.size w w' ∧ (w'.cell? ⟨w.heap.size, 0, none⟩ = some (.slice A secs.length c) ∧ w'.cell? ⟨w.heap.size, 1, none⟩ = some (.slice A' pend.length c') ∧ w'.cell? ⟨w.heap.size, 2, none⟩ = some (.int .i64 left) ∧ w'.cell? ⟨w.heap.size, 3, none⟩ = some (.bool false))) (first | exact KEEP1.out | exact KEEPA.out _ _ (by assumption) | exact hS7 | exact KEEPA.out _ _ hS7 | exact KEEPS.out _ _ _ _ _ _ hs1 hS7 | exact KEEPS.out _ _ _ _ _ _ (Nat.le_succ_of_le hs1) hS7 | assumption) (first | (refine step_apps (w := (w1.alloc (.cells #[] 35)).drew) (o := ⟨some 35, _, _, _, _, _⟩) rfl (.tmp 32) (.tmp 34) _ rfl E_bytes OA.out rfl (ys := secs) A c rfl SA.out.row (fun _ _ _ h => h) FA.out HBY.out (by decide) z1.out ?_; intro v7 w7 hown7 hg7 hat7; obtain ⟨A7, c7, rfl, _, _⟩ := hown7.form; have hrow7 : ∀ k, (Value.slice (some ⟨w1.heap.size, 0, none⟩) 0 0).ownBlock = some k → w.heap.size + 2 ≤ k := (fun k hk => own_is hk ▸ (by omega)); have hS7 := KEEPG.out _ _ _ TA.out hg7 hrow7 z1.out; have hX7 := Lib.hid ((XA.out.1).grown hg7 (fun e => by have := hrow7 _ e; omega)); have hR7 := Lib.hid ((XA.out.2).grown hg7 (fun e => by have := hrow7 _ e; omega)); have hs7 := Nat.le_trans z1.out hg7.size; skip) | (refine step_apps (w := ((w1.alloc (.cells #[] 35)).alloc (.cells #[.slice none 0 0, .slice none 0 0, .int .i64 0, .bool false] 25)).drew) (o := ⟨some 35, _, _, _, _, _⟩) rfl (.tmp 32) (.tmp 34) _ rfl E_bytes OB.out rfl (ys := secs) A c rfl SB.out.row (fun _ _ _ h => h) FB.out HBY.out (by decide) z2.out ?_; intro v7 w7 hown7 hg7 hat7; obtain ⟨A7, c7, rfl, _, _⟩ := hown7.form; have hrow7 : ∀ k, (Value.slice (some ⟨w1.heap.size, 0, none⟩) 0 0).ownBlock = some k → w.heap.size + 2 ≤ k := (fun k hk => own_is hk ▸ (by omega)); have hS7 := KEEPG.out _ _ _ TB.out hg7 hrow7 z2.out; have hX7 := Lib.hid ((XB.out.1).grown hg7 (fun e => by have := hrow7 _ e; omega)); have hR7 := Lib.hid ((XB.out.2).grown hg7 (fun e => by have := hrow7 _ e; omega)); have hs7 := Nat.le_trans z2.out hg7.size; obtain ⟨⟨y1, y2, y3, y4⟩, y5, y6, y7, y8⟩ := (UB.out.grown hg7 (by simp [Value.ownBlock])).facts4; have hU7 := Lib.hid (UB.out.grown hg7 (by simp [Value.ownBlock]))) | (refine step_apps (w := ((w1.alloc (.cells #[.slice none 0 0, .slice none 0 0, .int .i64 0, .bool false] 25)).alloc (.cells #[] 35)).drew) (o := ⟨some 35, _, _, _, _, _⟩) rfl (.tmp 32) (.tmp 34) _ rfl E_bytes OC.out rfl (ys := secs) A c rfl SC.out.row (fun _ _ _ h => h) FC.out HBY.out (by decide) z3.out ?_; intro v7 w7 hown7 hg7 hat7; obtain ⟨A7, c7, rfl, _, _⟩ := hown7.form; have hrow7 : ∀ k, (Value.slice (some ⟨w1.heap.size + 1, 0, none⟩) 0 0).ownBlock = some k → w.heap.size + 2 ≤ k := (fun k hk => own_is hk ▸ (by omega)); have hS7 := KEEPG.out _ _ _ TC.out hg7 hrow7 z3.out; have hX7 := Lib.hid ((XC.out.1).grown hg7 (fun e => by have := hrow7 _ e; omega)); have hR7 := Lib.hid ((XC.out.2).grown hg7 (fun e => by have := hrow7 _ e; omega)); have hs7 := Nat.le_trans z3.out hg7.size; obtain ⟨⟨y1, y2, y3, y4⟩, y5, y6, y7, y8⟩ := (UC.out.grown hg7 (by simp [Value.ownBlock])).facts4; have hU7 := Lib.hid (UC.out.grown hg7 (by simp [Value.ownBlock]))))
    all_goals
      go_wp2
      go_meet
      first
        | exact ⟨_, A7, c7, rfl, met_new hown7 hX7.out hR7.out hS7.1 hs7⟩
        | exact ⟨_, A7, c7, rfl, met_old hown7 hX7.out hR7.out hS7.1 hs7 (by omega) hU7.out rfl (fun k hk => hat7.elim (fun ha => by have h1 := own_is (ha ▸ hk : (Value.slice (some ⟨_, 0, none⟩) 0 0).ownBlock = some k); omega) (fun ha => by have h2 : (World.alloc (World.alloc w1 _) _).heap.size ≤ k := ha k hk; rw [World.size_alloc, World.size_alloc] at h2; omega))⟩
  case rest =>
    obtain ⟨b6, A7, c7, rfl, hMet⟩ := hcut
    have hP0 := Lib.hid (met_p hMet.out)
    clear hMet HB1 HV1 HBW1 HS1 KEEP0 KEEP1 KEEPA KEEPG KEEPS HBY z1 z2 z3 OA OB OC SA SB SC FA FB FC blkB TA TB TC XA XB XC UB UC
    clear e1 e2 e3 e4 e5 e6 e7 e8 g1 g2 g3 g4 g5 g6 g7 g8 f1 f2 f3 f4
    have hP1 := hP0
    go_wp2_with fail
    go_loopw [7] (fun i' wr => ∃ i : Nat, i' = .int .i64 i ∧ i ≤ pend.length ∧ Hid (MetP w wr secs.length (performD (pend.take i) secs) A c A' pend.length c' left b6 A7 c7)) (fun i' _ => pend.length - (intOf i').toNat)
    case atStart => exact ⟨0, rfl, Nat.zero_le _, hP0⟩
    case round =>
      obtain ⟨i, rfl, hi, hP⟩ := hrel
      clear hP1
      obtain ⟨p1, p2, p3, p4, p5, p6, p7, p8, p9⟩ := hP.out
      obtain ⟨q1, q2, q3, q4⟩ := p3.facts4.1
      obtain ⟨u1, u2, u3, u4⟩ := p6.facts4.1
      have P3 := Lib.hid p3
      have P4 := Lib.hid p4
      have P5 := Lib.hid p5
      have P6 := Lib.hid p6
      have P7 := Lib.hid p7
      have P8 := Lib.hid p8
      clear p1 p3 p4 p5 p6 p7 p8 hP
      by_cases hin : i < pend.length
      · have hin2 : i < pend.length := by omega
        obtain ⟨ad, A1, c1', rfl, x0, x1, hpos, hsl⟩ := wr_at (HP.out.below P8.out) hin2
        obtain ⟨o1, o2, o3⟩ := HWR.out pend[i] (List.getElem_mem hin2)
        obtain ⟨j, hj⟩ : ∃ j : Nat, pend[i].pos = (j : Int) := ⟨pend[i].pos.toNat, by omega⟩
        rw [hj] at x0 o1 o2
        have hjl : j < (performD (pend.take i) secs).length := by rw [length_performD]; omega
        have hK : kBytes.K wr (Old w) pend[i].data [.slice A1 pend[i].data.length c1'] := ⟨A1, c1', rfl, hsl⟩
        obtain ⟨g7, cap7, cur7, hv7, hg7, hF7, _⟩ := P4.out.block1 rfl (fun e => by rw [e] at hjl; cases hjl)
        rw [length_performD] at hv7
        injection hv7 with hv7 _ hc7
        subst hv7; subst hc7
        have hb67 : g7 ≠ b6 := P5.out g7 rfl
        obtain ⟨y1, y2, ⟨yu, y3⟩, y4, y5⟩ := P4.out.set1_at rfl hjl hK
        have HO7 := Lib.hid y5
        have HTK := Lib.hid (performD_take (s := secs) hin2)
        have hjn : pend[i].pos.toNat = j := by rw [hj]; rfl
        rw [hjn] at HTK
        have hji : (j : Int) < (secs.length : Int) := by omega
        have hli : (i : Int) < (pend.length : Int) := by omega
        obtain ⟨mi, hmi⟩ : ∃ m, pend[i].data.length = m := ⟨_, rfl⟩
        rw [hmi] at x1 HO7
        have hw0 : (⟨g7, j, none⟩ : Addr).block ≠ (⟨b6, 0, none⟩ : Addr).block := hb67
        have hpa : ∀ o : Nat, (⟨g7, j, none⟩ : Addr).block ≠ (⟨w.heap.size, o, none⟩ : Addr).block := fun o e => by have e' : g7 = w.heap.size := e; omega
        have hadl : (ad.add (i * 2)).block < w.heap.size := by
          obtain ⟨ad', cs', e', hF', _⟩ := HP.out.row.at_ hin2
          injection e' with e'
          subst e'
          rw [block_add]; exact hF'
        have KEEP1 : Hid ((fun w' : World => Below w.heap.size w w' ∧ ((w'.cell? ⟨b6, 0, none⟩ = some (.slice (some ⟨g7, 0, none⟩) secs.length c7) ∧ w'.cell? ⟨b6, 1, none⟩ = some (.slice none 0 0) ∧ w'.cell? ⟨b6, 2, none⟩ = some (.int .i64 left) ∧ w'.cell? ⟨b6, 3, none⟩ = some (.bool false))) ∧ ((w'.cell? ⟨w.heap.size, 0, none⟩ = some (.slice A secs.length c) ∧ w'.cell? ⟨w.heap.size, 1, none⟩ = some (.slice (some ad) pend.length c') ∧ w'.cell? ⟨w.heap.size, 2, none⟩ = some (.int .i64 left) ∧ w'.cell? ⟨w.heap.size, 3, none⟩ = some (.bool false))) ∧ w'.cell? (ad.add (i * 2)) = some (.int .i64 j) ∧ w'.cell? ⟨(ad.add (i * 2)).block, (ad.add (i * 2)).off + 1, none⟩ = some (.slice A1 mi c1')) wr.drew) := ⟨below_then P8.out (below_drew (Below.refl _ _)), ⟨q1, q2, q3, q4⟩, ⟨u1, u2, u3, u4⟩, x0, x1⟩
        have KEEP2 : Hid ((fun w' : World => Below w.heap.size w w' ∧ ((w'.cell? ⟨b6, 0, none⟩ = some (.slice (some ⟨g7, 0, none⟩) secs.length c7) ∧ w'.cell? ⟨b6, 1, none⟩ = some (.slice none 0 0) ∧ w'.cell? ⟨b6, 2, none⟩ = some (.int .i64 left) ∧ w'.cell? ⟨b6, 3, none⟩ = some (.bool false))) ∧ ((w'.cell? ⟨w.heap.size, 0, none⟩ = some (.slice A secs.length c) ∧ w'.cell? ⟨w.heap.size, 1, none⟩ = some (.slice (some ad) pend.length c') ∧ w'.cell? ⟨w.heap.size, 2, none⟩ = some (.int .i64 left) ∧ w'.cell? ⟨w.heap.size, 3, none⟩ = some (.bool false))) ∧ w'.cell? (ad.add (i * 2)) = some (.int .i64 j) ∧ w'.cell? ⟨(ad.add (i * 2)).block, (ad.add (i * 2)).off + 1, none⟩ = some (.slice A1 mi c1')) (wr.setCell ⟨g7, j, none⟩ (.slice A1 mi c1')).drew) := ⟨below_drew (P8.out.setCell (by show w.heap.size ≤ g7; omega) _), ⟨othercell hb67 q1, othercell hb67 q2, othercell hb67 q3, othercell hb67 q4⟩, ⟨othercell (hpa 0) u1, othercell (hpa 1) u2, othercell (hpa 2) u3, othercell (hpa 3) u4⟩, othercell (fun e => by have e' : g7 = (ad.add (i * 2)).block := e; omega) x0, othercell (fun e => by have e' : g7 = (ad.add (i * 2)).block := e; omega) x1⟩
        have HX : Hid (MetP w (wr.setCell ⟨g7, j, none⟩ (.slice A1 mi c1')).drew secs.length (performD (pend.take (i + 1)) secs) A c (some ad) pend.length c' left b6 (some ⟨g7, 0, none⟩) c7) := by
          refine ⟨by rw [length_performD], p2, (P3.out.other (fun e => hb67 e.symm)).below (below_drew (Below.refl _ _)), ?_, P5.out, (P6.out.other (by omega)).below (below_drew (Below.refl _ _)), (P7.out.other (by omega)).below (below_drew (Below.refl _ _)), below_drew (P8.out.setCell (by show w.heap.size ≤ g7; omega) _), by show _ ≤ (wr.setCell _ _).heap.size; simpa [World.setCell] using p9⟩
          rw [HTK.out]
          have h7 := HO7.out.below (below_drew (Below.refl _ _))
          have e7 : pend[i].data.length = mi := hmi
          exact h7
        clear hpos hsl hK y5 hmi hj hjn
        go_wp2_with fail
        go_region_held3 (fun w' : World => Below w.heap.size w w' ∧ ((w'.cell? ⟨b6, 0, none⟩ = some (.slice (some ⟨g7, 0, none⟩) secs.length c7) ∧ w'.cell? ⟨b6, 1, none⟩ = some (.slice none 0 0) ∧ w'.cell? ⟨b6, 2, none⟩ = some (.int .i64 left) ∧ w'.cell? ⟨b6, 3, none⟩ = some (.bool false))) ∧ ((w'.cell? ⟨w.heap.size, 0, none⟩ = some (.slice A secs.length c) ∧ w'.cell? ⟨w.heap.size, 1, none⟩ = some (.slice (some ad) pend.length c') ∧ w'.cell? ⟨w.heap.size, 2, none⟩ = some (.int .i64 left) ∧ w'.cell? ⟨w.heap.size, 3, none⟩ = some (.bool false))) ∧ w'.cell? (ad.add (i * 2)) = some (.int .i64 j) ∧ w'.cell? ⟨(ad.add (i * 2)).block, (ad.add (i * 2)).off + 1, none⟩ = some (.slice A1 mi c1')) (first | exact KEEP1.out | exact KEEP2.out) (fail)
        go_wp2
        go_roundw
        case rel => exact ⟨i + 1, by go_num, by omega, HX⟩
        case measure => simp [intOf]; omega
      · obtain rfl : i = pend.length := by omega
        rw [List.take_length] at P4
        have hsl := P4.out.sl (F' := fun k => (k < w.heap.size ∨ w.heap.size + 2 ≤ k) ∧ k ≠ b6) (fun k hk _ => ⟨.inl hk, fun e => by have hk' : k < w.heap.size := hk; omega⟩) (fun k hk => ⟨.inr (P4.out.lt k hk).1, P5.out k hk⟩)
        obtain ⟨A9, c9, e9, h9⟩ := hsl
        rw [length_performD] at e9
        injection e9 with e9 _ e10
        subst e9; subst e10
        have H9 := Lib.hid h9
        have hF9 : ¬ ((fun k => (k < w.heap.size ∨ w.heap.size + 2 ≤ k) ∧ k ≠ b6) (w.heap.size + 1)) := fun h => by rcases h.1 with h | h <;> omega
        have hF6 : ¬ ((fun k => (k < w.heap.size ∨ w.heap.size + 2 ≤ k) ∧ k ≠ b6) b6) := fun h => h.2 rfl
        obtain ⟨v1, v2, v3, v4⟩ := P7.out.facts4.1
        obtain ⟨v5, v6, v7, v8⟩ := P7.out.facts4.2
        clear h9 hin
        have hwr : IntKind.i64.wrap (left - pend.length) = left - pend.length := IntWalk.i64_in _ (by omega)
        obtain ⟨z1, z2, z3, z4⟩ := P3.out.facts4.2
        have hP3 := P3.out.set 2 (.int .i64 (left - pend.length))
        obtain ⟨t1, t2, t3, t4⟩ := hP3.facts4.1
        have P7a := Lib.hid (P7.out.other (v := b6) (i := 2) (u := .int .i64 (left - pend.length)) (by omega))
        obtain ⟨s1, s2, s3, s4⟩ := P7a.out.facts4.1
        obtain ⟨s5, s6, s7, s8⟩ := P7a.out.facts4.2
        clear hP3
        go_wp2
        rw [HE.out.1, HE.out.2]
        have hK := kDsk_is (d := ⟨performD pend secs, [], if 0 ≤ left then left - pend.length else left, false⟩) (l := left - pend.length) (sl_set (i := 2) H9.out hF6 (.int .i64 (left - pend.length))) (SL.nil (A := none) (c := 0) (Nat.zero_le _)) (by show I64 (if 0 ≤ left then left - pend.length else left); rw [if_pos (by omega)]; unfold I64; omega) (length_performD pend secs).symm rfl (by show left - pend.length = if 0 ≤ left then left - pend.length else left; rw [if_pos (by omega)]) rfl
        exact dskE_leave rfl P7a.out rfl hK hF9 (P8.out.setCell (by show w.heap.size ≤ b6; omega) _) (by omega) rfl rfl
end Go.Proofs.Ytmcdimcjmafaoaa.B
