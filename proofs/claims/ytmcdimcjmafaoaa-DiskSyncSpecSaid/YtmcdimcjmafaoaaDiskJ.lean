import Derived.Test.YtmcdimcjmafaoaaDiskI
import Derived.IntWalk
namespace Go.Proofs.Ytmcdimcjmafaoaa.B
set_option linter.unusedVariables false
set_option linter.unusedSimpArgs false
open Go.RowKit

theorem perform_as {secs : List (List UInt8)} {l : List Wr} {w : World} {F : Foot} {A A' : Option Addr} {c c' n m : Nat} (hs : SL kBytes w F A c secs) (hp : SL kWr w F A' c' l) (en : secs.length = n) (em : l.length = m) (hFo : ∀ k, F k → k < w.heap.size)
    (hok : ∀ x ∈ l, 0 ≤ x.pos ∧ x.pos < (secs.length : Int)) (h0 : 1 ≤ secs.length) (hn : secs.length ≤ 4096) (hl : l.length ≤ 4096) :
    Calls Try.prog 40 #[.slice A n c, .slice A' m c'] w (CloneR kBytes 35 (performD l secs) w F) := by
  subst en em
  exact perform_calls hs hp hFo hok h0 hn hl
theorem valid_wr {d : Dsk} (h : d.valid = true) : ∀ x ∈ d.pend, 0 ≤ x.pos ∧ x.pos < (d.secs.length : Int) ∧ x.data.length = 128 := by
  unfold Dsk.valid at h
  simp only [Bool.and_eq_true, decide_eq_true_eq] at h
  intro x hx
  have := List.all_eq_true.1 h.1.2 x hx
  unfold okWr okSec at this
  simp only [Bool.and_eq_true, decide_eq_true_eq, beq_iff_eq] at this
  exact ⟨this.1.1, this.1.2, this.2⟩
theorem valid_sec {d : Dsk} (h : d.valid = true) : ∀ b ∈ d.secs, b.length = 128 := by
  unfold Dsk.valid at h
  simp only [Bool.and_eq_true, decide_eq_true_eq] at h
  intro x hx
  have := List.all_eq_true.1 h.2 x hx
  unfold okSec at this
  simpa using this
theorem keepcell {w w' : World} {a : Addr} {v : Value} (hb : Below w.heap.size w w') (h : w.cell? a = some v) : w'.cell? a = some v := by
  have hl : a.block < w.heap.size := by
    rcases Nat.lt_or_ge a.block w.heap.size with h1 | h1
    · exact h1
    · simp [World.cell?, Array.getElem?_eq_none h1] at h
  unfold World.cell? at h ⊢
  rw [hb.block _ hl]
  exact h
theorem othercell {w : World} {a b : Addr} {v u : Value} (hne : b.block ≠ a.block) (h : w.cell? a = some v) : (w.setCell b u).cell? a = some v := by
  have := Below.heap_setCell w b u a.block (fun e => hne e.symm)
  unfold World.cell? at h ⊢
  rw [this]
  exact h
theorem sl_set {α : Type} {d : Kd α} {w2 : World} {b i : Nat} {F : Foot} {A : Option Addr} {c : Nat} {xs : List α} (h : SL d w2 F A c xs) (hF : ¬ F b) (u : Value) : SL d (w2.setCell ⟨b, i, none⟩ u) F A c xs :=
  h.move (fun k hk _ => Below.heap_setCell _ _ _ _ (fun e => hF (by have e' : k = b := e; rw [← e']; exact hk))) (by simp [World.setCell])
theorem sync_no {d : Dsk} (h : d.runs = false) : syncE d = 470 ∧ syncD d = zeroD := by unfold syncE syncD; rw [h]; exact ⟨rfl, rfl⟩
theorem sync_ok {d : Dsk} (h : d.runs = true) (hs : d.stops = false) : syncE d = 0 ∧ syncD d = ⟨performD d.pend d.secs, [], if 0 ≤ d.left then d.left - d.pend.length else d.left, false⟩ := by unfold syncE syncD; rw [h, hs]; exact ⟨rfl, rfl⟩
theorem sync_torn {d : Dsk} (h : d.runs = true) (hs : d.stops = true) : syncE d = 470 ∧ syncD d = ⟨tornD d, [], 0, true⟩ := by unfold syncE syncD; rw [h, hs]; exact ⟨rfl, rfl⟩
set_option maxRecDepth 100000 in
set_option maxHeartbeats 1500000 in
theorem sync_plain_calls {d : Dsk} {w : World} {F : Foot} {cs : List Value} (h : kDsk.K w F d cs) (hno : d.runs = true → d.stops = false) :
    Calls Try.prog 23 #[.agg cs.toArray] w (DskF F (syncD d) (syncE d) w) := by
  have H := Lib.hid (Kd.any h)
  obtain ⟨A, c, A', c', rfl, hs, hpe, hl⟩ := kDsk_open (kd_now h)
  have HS := Lib.hid hs
  have HP := Lib.hid hpe
  have HL := Lib.hid hl
  clear h hs hpe hl
  have HB := Lib.hid ((dsk_box w d A A' c c').below (below_box (Below.refl _ _) (.cells #[.slice none 0 0, .slice none 0 0, .int .i64 0, .bool false] 25)))
  have HV := Lib.hid (Blk.new (w.alloc (.cells #[.slice A d.secs.length c, .slice A' d.pend.length c', .int .i64 d.left, .bool d.stop] 25)) 25 [.slice none 0 0, .slice none 0 0, .int .i64 0, .bool false])
  rw [World.size_alloc] at HV
  have HBW : Below w.heap.size w ((w.alloc (.cells #[.slice A d.secs.length c, .slice A' d.pend.length c', .int .i64 d.left, .bool d.stop] 25)).alloc (.cells #[.slice none 0 0, .slice none 0 0, .int .i64 0, .bool false] 25)) := below_box (below_box (Below.refl _ _) _) _
  obtain ⟨⟨f1, f2, f3, f4⟩, _⟩ := HB.out.facts4
  cases hr : d.runs
  · have HR := Lib.hid hr
    have HE := Lib.hid (sync_no hr)
    clear hr
    go_enter Try.func23, Try.ntmps23
    go_wp2_with fail
    refine (runs_as HR.out (Kd.old H.out HBW)).mono ?_
    rintro e w1 ⟨rfl, hb1⟩
    obtain ⟨⟨g1, g2, g3, g4⟩, g5, g6, g7, g8⟩ := (HV.out.below hb1).facts4
    go_wp2
    rw [HE.out.1, HE.out.2]
    exact dskF_leave (fun _ h => h.elim) rfl (HV.out.below hb1) rfl (kZeroD _ (fun _ => False)) (fun h => h) (below_then HBW hb1) (by omega) rfl rfl
  · have HRF := Lib.hid (valid_facts (runs_facts hr).1)
    have HWR := Lib.hid (valid_wr (runs_facts hr).1)
    have HSE := Lib.hid (valid_sec (runs_facts hr).1)
    have HR := Lib.hid hr
    obtain ⟨r1, r2⟩ := HL.out
    have rp := HRF.out.2.2.1
    have hst := hno hr
    · have HE := Lib.hid (sync_ok hr hst)
      have HST := Lib.hid hst
      clear hr hst
      have hcase : d.left < 0 ∨ (0 ≤ d.left ∧ (d.pend.length : Int) ≤ d.left) := by
        rcases Int.lt_or_le d.left 0 with h | h
        · exact .inl h
        · refine .inr ⟨h, ?_⟩
          have h2 := HST.out
          unfold Dsk.stops at h2
          rw [decide_eq_true h, Bool.true_and, decide_eq_false_iff_not] at h2
          omega
      have hl5 := HRF.out.2.2.2.2
      rcases hcase with hc | ⟨hc, hc'⟩
      · have HD : Hid (syncD d = ⟨performD d.pend d.secs, [], d.left, false⟩) := by show _ = _; rw [HE.out.2, if_neg (by omega)]
        go_enter Try.func23, Try.ntmps23
        go_wp2_with fail
        refine (runs_as HR.out (Kd.old H.out HBW)).mono ?_
        rintro e w1 ⟨rfl, hb1⟩
        have HBW1 := Lib.hid (below_then HBW hb1)
        have HB1 := Lib.hid (HB.out.below hb1)
        have HV1 := Lib.hid (HV.out.below hb1)
        have hs1 : w.heap.size + 2 ≤ w1.heap.size := by have a1 := hb1.size; rw [World.size_alloc, World.size_alloc] at a1; omega
        obtain ⟨⟨x1, x2, x3, x4⟩, _⟩ := HB1.out.facts4
        have KEEP0 : ∀ w', Below w1.heap.size w1 w' → (fun w' : World => Below w.heap.size w w' ∧ (w'.cell? ⟨w.heap.size, 0, none⟩ = some (.slice A d.secs.length c) ∧ w'.cell? ⟨w.heap.size, 1, none⟩ = some (.slice A' d.pend.length c') ∧ w'.cell? ⟨w.heap.size, 2, none⟩ = some (.int .i64 d.left) ∧ w'.cell? ⟨w.heap.size, 3, none⟩ = some (.bool d.stop))) w' := fun w' hb => ⟨below_then HBW1.out hb, (HB1.out.below hb).facts4.1⟩
        have KEEP := Lib.hid (fun w' w'' (h : (fun w' : World => Below w.heap.size w w' ∧ (w'.cell? ⟨w.heap.size, 0, none⟩ = some (.slice A d.secs.length c) ∧ w'.cell? ⟨w.heap.size, 1, none⟩ = some (.slice A' d.pend.length c') ∧ w'.cell? ⟨w.heap.size, 2, none⟩ = some (.int .i64 d.left) ∧ w'.cell? ⟨w.heap.size, 3, none⟩ = some (.bool d.stop))) w') (hb : Below w'.heap.size w' w'') => show (fun w' : World => Below w.heap.size w w' ∧ (w'.cell? ⟨w.heap.size, 0, none⟩ = some (.slice A d.secs.length c) ∧ w'.cell? ⟨w.heap.size, 1, none⟩ = some (.slice A' d.pend.length c') ∧ w'.cell? ⟨w.heap.size, 2, none⟩ = some (.int .i64 d.left) ∧ w'.cell? ⟨w.heap.size, 3, none⟩ = some (.bool d.stop))) w'' from ⟨below_then h.1 hb, keepcell hb h.2.1, keepcell hb h.2.2.1, keepcell hb h.2.2.2.1, keepcell hb h.2.2.2.2⟩)
        have KEEPS := Lib.hid (fun w' u0 u1 u2 u3 (h : (fun w' : World => Below w.heap.size w w' ∧ (w'.cell? ⟨w.heap.size, 0, none⟩ = some (.slice A d.secs.length c) ∧ w'.cell? ⟨w.heap.size, 1, none⟩ = some (.slice A' d.pend.length c') ∧ w'.cell? ⟨w.heap.size, 2, none⟩ = some (.int .i64 d.left) ∧ w'.cell? ⟨w.heap.size, 3, none⟩ = some (.bool d.stop))) w') => show (fun w' : World => Below w.heap.size w w' ∧ (w'.cell? ⟨w.heap.size, 0, none⟩ = some (.slice A d.secs.length c) ∧ w'.cell? ⟨w.heap.size, 1, none⟩ = some (.slice A' d.pend.length c') ∧ w'.cell? ⟨w.heap.size, 2, none⟩ = some (.int .i64 d.left) ∧ w'.cell? ⟨w.heap.size, 3, none⟩ = some (.bool d.stop))) ((((w'.setCell ⟨w.heap.size + 1, 0, none⟩ u0).setCell ⟨w.heap.size + 1, 1, none⟩ u1).setCell ⟨w.heap.size + 1, 2, none⟩ u2).setCell ⟨w.heap.size + 1, 3, none⟩ u3) from
          have hne : ∀ i j, (⟨w.heap.size + 1, i, none⟩ : Addr).block ≠ (⟨w.heap.size, j, none⟩ : Addr).block := fun _ _ => Nat.succ_ne_self _
          ⟨below_set4 h.1 (Nat.le_succ _) _ _ _ _, othercell (hne _ _) (othercell (hne _ _) (othercell (hne _ _) (othercell (hne _ _) h.2.1))), othercell (hne _ _) (othercell (hne _ _) (othercell (hne _ _) (othercell (hne _ _) h.2.2.1))), othercell (hne _ _) (othercell (hne _ _) (othercell (hne _ _) (othercell (hne _ _) h.2.2.2.1))), othercell (hne _ _) (othercell (hne _ _) (othercell (hne _ _) (othercell (hne _ _) h.2.2.2.2)))⟩)
        have KEEP1 := Lib.hid (KEEP0 _ (below_drew (Below.refl _ _)))
        clear KEEP0
        go_wp2_with fail
        go_region_held3 (fun w' : World => Below w.heap.size w w' ∧ (w'.cell? ⟨w.heap.size, 0, none⟩ = some (.slice A d.secs.length c) ∧ w'.cell? ⟨w.heap.size, 1, none⟩ = some (.slice A' d.pend.length c') ∧ w'.cell? ⟨w.heap.size, 2, none⟩ = some (.int .i64 d.left) ∧ w'.cell? ⟨w.heap.size, 3, none⟩ = some (.bool d.stop))) (first | exact KEEP1.out | exact KEEP.out _ _ (by assumption) hb7 | exact KEEPS.out _ _ _ _ _ (by assumption) | assumption) (first | (go_at_call 40; refine (perform_as (HS.out.below (below_then HBW1.out (below_drew (Below.refl _ _)))) (HP.out.below (below_then HBW1.out (below_drew (Below.refl _ _)))) rfl rfl (fun k hk => Nat.lt_of_lt_of_le hk.2 (below_then HBW1.out (below_drew (Below.refl _ _))).size) (fun x hx => ⟨(HWR.out x hx).1, (HWR.out x hx).2.1⟩) HRF.out.1 HRF.out.2.1 rp).mono ?_; rintro e w7 ⟨v7, rfl, hown7, hb7⟩; obtain ⟨A7, c7, rfl, _, _⟩ := hown7.form; have HV7 := Lib.hid ((HV1.out.below (below_drew (Below.refl _ _))).below hb7); obtain ⟨⟨g1, g2, g3, g4⟩, g5, g6, g7, g8⟩ := HV7.out.facts4))
        go_wp2
        rw [HE.out.1, HD.out]
        have hsl7 : SL kBytes w7 (GapF F w) A7 c7 (performD d.pend d.secs) := by
          obtain ⟨A8, c8, e8, h8⟩ := hown7.sl (F' := GapF F w) (fun k hk _ => .inl hk) (fun k hk => .inr (by have := (hown7.lt k hk).1; have : w1.drew.heap.size = w1.heap.size := rfl; omega))
          injection e8 with e8 _ e9
          subst e8 e9
          exact h8
        exact dskF_leave gapF_fut rfl (dsk_set4 HV7.out rfl _ _ _ _) rfl (kd_set4 (F := GapF F w) (kDsk_mk (d := ⟨performD d.pend d.secs, [], d.left, false⟩) hsl7 (SL.nil (Nat.zero_le _)) HL.out) (fun h => by rcases h with ⟨_, h⟩ | h <;> omega) _ _ _ _) (fun h => by rcases h with ⟨_, h⟩ | h <;> omega) (below_set4 (below_then HBW1.out (below_then (below_drew (Below.refl _ _)) hb7)) (by omega) _ _ _ _) (by omega) rfl rfl
      · have HD : Hid (syncD d = ⟨performD d.pend d.secs, [], d.left - d.pend.length, false⟩) := by show _ = _; rw [HE.out.2, if_pos (by omega)]
        have hwr : IntKind.i64.wrap (d.left - d.pend.length) = d.left - d.pend.length := IntWalk.i64_in _ (by omega)
        go_enter Try.func23, Try.ntmps23
        go_wp2_with fail
        refine (runs_as HR.out (Kd.old H.out HBW)).mono ?_
        rintro e w1 ⟨rfl, hb1⟩
        have HBW1 := Lib.hid (below_then HBW hb1)
        have HB1 := Lib.hid (HB.out.below hb1)
        have HV1 := Lib.hid (HV.out.below hb1)
        have hs1 : w.heap.size + 2 ≤ w1.heap.size := by have a1 := hb1.size; rw [World.size_alloc, World.size_alloc] at a1; omega
        obtain ⟨⟨x1, x2, x3, x4⟩, _⟩ := HB1.out.facts4
        have KEEP0 : ∀ w', Below w1.heap.size w1 w' → (fun w' : World => Below w.heap.size w w' ∧ (w'.cell? ⟨w.heap.size, 0, none⟩ = some (.slice A d.secs.length c) ∧ w'.cell? ⟨w.heap.size, 1, none⟩ = some (.slice A' d.pend.length c') ∧ w'.cell? ⟨w.heap.size, 2, none⟩ = some (.int .i64 d.left) ∧ w'.cell? ⟨w.heap.size, 3, none⟩ = some (.bool d.stop))) w' := fun w' hb => ⟨below_then HBW1.out hb, (HB1.out.below hb).facts4.1⟩
        have KEEP := Lib.hid (fun w' w'' (h : (fun w' : World => Below w.heap.size w w' ∧ (w'.cell? ⟨w.heap.size, 0, none⟩ = some (.slice A d.secs.length c) ∧ w'.cell? ⟨w.heap.size, 1, none⟩ = some (.slice A' d.pend.length c') ∧ w'.cell? ⟨w.heap.size, 2, none⟩ = some (.int .i64 d.left) ∧ w'.cell? ⟨w.heap.size, 3, none⟩ = some (.bool d.stop))) w') (hb : Below w'.heap.size w' w'') => show (fun w' : World => Below w.heap.size w w' ∧ (w'.cell? ⟨w.heap.size, 0, none⟩ = some (.slice A d.secs.length c) ∧ w'.cell? ⟨w.heap.size, 1, none⟩ = some (.slice A' d.pend.length c') ∧ w'.cell? ⟨w.heap.size, 2, none⟩ = some (.int .i64 d.left) ∧ w'.cell? ⟨w.heap.size, 3, none⟩ = some (.bool d.stop))) w'' from ⟨below_then h.1 hb, keepcell hb h.2.1, keepcell hb h.2.2.1, keepcell hb h.2.2.2.1, keepcell hb h.2.2.2.2⟩)
        have KEEPS := Lib.hid (fun w' u0 u1 u2 u3 (h : (fun w' : World => Below w.heap.size w w' ∧ (w'.cell? ⟨w.heap.size, 0, none⟩ = some (.slice A d.secs.length c) ∧ w'.cell? ⟨w.heap.size, 1, none⟩ = some (.slice A' d.pend.length c') ∧ w'.cell? ⟨w.heap.size, 2, none⟩ = some (.int .i64 d.left) ∧ w'.cell? ⟨w.heap.size, 3, none⟩ = some (.bool d.stop))) w') => show (fun w' : World => Below w.heap.size w w' ∧ (w'.cell? ⟨w.heap.size, 0, none⟩ = some (.slice A d.secs.length c) ∧ w'.cell? ⟨w.heap.size, 1, none⟩ = some (.slice A' d.pend.length c') ∧ w'.cell? ⟨w.heap.size, 2, none⟩ = some (.int .i64 d.left) ∧ w'.cell? ⟨w.heap.size, 3, none⟩ = some (.bool d.stop))) ((((w'.setCell ⟨w.heap.size + 1, 0, none⟩ u0).setCell ⟨w.heap.size + 1, 1, none⟩ u1).setCell ⟨w.heap.size + 1, 2, none⟩ u2).setCell ⟨w.heap.size + 1, 3, none⟩ u3) from
          have hne : ∀ i j, (⟨w.heap.size + 1, i, none⟩ : Addr).block ≠ (⟨w.heap.size, j, none⟩ : Addr).block := fun _ _ => Nat.succ_ne_self _
          ⟨below_set4 h.1 (Nat.le_succ _) _ _ _ _, othercell (hne _ _) (othercell (hne _ _) (othercell (hne _ _) (othercell (hne _ _) h.2.1))), othercell (hne _ _) (othercell (hne _ _) (othercell (hne _ _) (othercell (hne _ _) h.2.2.1))), othercell (hne _ _) (othercell (hne _ _) (othercell (hne _ _) (othercell (hne _ _) h.2.2.2.1))), othercell (hne _ _) (othercell (hne _ _) (othercell (hne _ _) (othercell (hne _ _) h.2.2.2.2)))⟩)
        have KEEP1 := Lib.hid (KEEP0 _ (below_drew (Below.refl _ _)))
        clear KEEP0
        go_wp2_with fail
        go_region_held3 (fun w' : World => Below w.heap.size w w' ∧ (w'.cell? ⟨w.heap.size, 0, none⟩ = some (.slice A d.secs.length c) ∧ w'.cell? ⟨w.heap.size, 1, none⟩ = some (.slice A' d.pend.length c') ∧ w'.cell? ⟨w.heap.size, 2, none⟩ = some (.int .i64 d.left) ∧ w'.cell? ⟨w.heap.size, 3, none⟩ = some (.bool d.stop))) (first | exact KEEP1.out | exact KEEP.out _ _ (by assumption) hb7 | exact KEEPS.out _ _ _ _ _ (by assumption) | assumption) (first | (go_at_call 40; refine (perform_as (HS.out.below (below_then HBW1.out (below_drew (Below.refl _ _)))) (HP.out.below (below_then HBW1.out (below_drew (Below.refl _ _)))) rfl rfl (fun k hk => Nat.lt_of_lt_of_le hk.2 (below_then HBW1.out (below_drew (Below.refl _ _))).size) (fun x hx => ⟨(HWR.out x hx).1, (HWR.out x hx).2.1⟩) HRF.out.1 HRF.out.2.1 rp).mono ?_; rintro e w7 ⟨v7, rfl, hown7, hb7⟩; obtain ⟨A7, c7, rfl, _, _⟩ := hown7.form; have HV7 := Lib.hid ((HV1.out.below (below_drew (Below.refl _ _))).below hb7); obtain ⟨⟨g1, g2, g3, g4⟩, g5, g6, g7, g8⟩ := HV7.out.facts4))
        have hsl7 : SL kBytes w7 (GapF F w) A7 c7 (performD d.pend d.secs) := by
          obtain ⟨A8, c8, e8, h8⟩ := hown7.sl (F' := GapF F w) (fun k hk _ => .inl hk) (fun k hk => .inr (by have := (hown7.lt k hk).1; have : w1.drew.heap.size = w1.heap.size := rfl; omega))
          injection e8 with e8 _ e9
          subst e8 e9
          exact h8
        have HBW7 := below_then HBW1.out (below_then (below_drew (Below.refl _ _)) hb7)
        have hF8 : ¬ GapF F w (w.heap.size + 1) := fun h => by rcases h with ⟨_, h⟩ | h <;> omega
        have hK8 := sl_set (i := 3) (sl_set (i := 2) (sl_set (i := 1) (sl_set (i := 0) hsl7 hF8 (.slice A7 (performD d.pend d.secs).length c7)) hF8 (.slice none 0 0)) hF8 (.int .i64 d.left)) hF8 (.bool false)
        have hV8 := dsk_set4 HV7.out rfl (.slice A7 (performD d.pend d.secs).length c7) (.slice none 0 0) (.int .i64 d.left) (.bool false)
        have hW8 := below_set4 HBW7 (b := w.heap.size + 1) (by omega) (.slice A7 (performD d.pend d.secs).length c7) (.slice none 0 0) (.int .i64 d.left) (.bool false)
        rename_i hHeld_
        clear hHeld_ HV7 g1 g2 g3 g4 g5 g6 g7 g8 hb7 hown7 hsl7 HBW7 KEEP KEEPS KEEP1 HV1 HB1
        generalize ((((w7.setCell ⟨w.heap.size + 1, 0, none⟩ (.slice A7 (performD d.pend d.secs).length c7)).setCell ⟨w.heap.size + 1, 1, none⟩ (.slice none 0 0)).setCell ⟨w.heap.size + 1, 2, none⟩ (.int .i64 d.left)).setCell ⟨w.heap.size + 1, 3, none⟩ (.bool false)) = w8 at hK8 hV8 hW8 ⊢
        have HK8 := Lib.hid hK8
        have HV8 := Lib.hid hV8
        have HW8 := Lib.hid hW8
        obtain ⟨⟨g1, g2, g3, g4⟩, g5, g6, g7, g8⟩ := HV8.out.facts4
        clear hK8 hV8 hW8
        go_wp2
        rw [HE.out.1, HD.out]
        exact dskF_leave gapF_fut rfl (HV8.out.set 2 _) rfl (kDsk_mk (d := ⟨performD d.pend d.secs, [], d.left - d.pend.length, false⟩) (sl_set (i := 2) HK8.out hF8 _) (SL.nil (A := none) (c := 0) (Nat.zero_le _)) (show I64 (d.left - d.pend.length) by unfold I64; omega)) hF8 (HW8.out.setCell (Nat.le_succ _) _) (by omega) rfl rfl
end Go.Proofs.Ytmcdimcjmafaoaa.B
