import Derived.Test.YtpmokmhakdkpdaaRReadB
namespace Go.Proofs.Ytpmokmhakdkpdaa.B
open Go.RowKit

theorem valM_2 {c : UInt8} {r : List UInt8} {k u : Nat} {b : Bool} {r' : List UInt8} (hc : c.toNat = 2) (hn : numM 0 r = (if b then none else some (u, r'))) : valM k (c :: r) = (if b then none else if u ≤ r'.length then some (⟨2, 0, ⟨(r'.take u).toArray⟩, []⟩, r'.drop u) else none) := by
  unfold valM
  rw [if_neg (by omega), if_pos hc]
  unfold lenM
  rw [hn]
  cases b
  · simp only [Option.bind_some, if_false, Bool.false_eq_true]
    split <;> rfl
  · rfl
theorem sl_drop {w : World} {F : Foot} {A : Option Addr} {c K : Nat} {xs : List UInt8} (h : SL kU8 w F A c xs) (hK : K ≤ xs.length) : SL kU8 w F (if c = K then A else Option.map (fun x => x.add K) A) (c - K) (xs.drop K) := by
  have := h.drop hK
  rwa [show kU8.sz = 1 from rfl, Nat.mul_one] at this
/-- A world in which what the reader leads to, and its own block, are as in W. -/
def Like (g : Nat) (F : Foot) (W w' : World) : Prop := (∀ k, (F k ∨ k = g) → k < W.heap.size → w'.heap[k]? = W.heap[k]?) ∧ W.heap.size ≤ w'.heap.size
theorem Like.refl (g : Nat) (F : Foot) (W : World) : Like g F W W := ⟨fun _ _ _ => rfl, Nat.le_refl _⟩
theorem Like.drew {g : Nat} {F : Foot} {W : World} : Like g F W W.drew := ⟨fun _ _ _ => rfl, Nat.le_refl _⟩
theorem Like.set {g v o : Nat} {F : Foot} {W w' : World} {u : Value} (h : Like g F W w') (hv : ¬ F v) (hg : v ≠ g) : Like g F W (w'.setCell ⟨v, o, none⟩ u) :=
  ⟨fun k hk hl => (Below.heap_setCell _ _ _ _ (fun e => by rcases hk with hk | hk; exact hv (by subst e; exact hk); exact hg (by rw [← hk, e]))).trans (h.1 k hk hl), by simpa [World.setCell] using h.2⟩
theorem Like.rs {g : Nat} {F : Foot} {W w' : World} {xs : List UInt8} {q : Nat} {b : Bool} (h : Like g F W w') (hr : RS W g F xs q b) : RS w' g F xs q b := hr.move h.1 h.2
theorem Like.sl {g : Nat} {F : Foot} {W w' : World} {xs : List UInt8} {A : Option Addr} {c : Nat} (h : Like g F W w') (hs : SL kU8 W F A c xs) : SL kU8 w' F A c xs := hs.move (fun k hk hl => h.1 k (.inl hk) hl) h.2
theorem Like.cell {g o : Nat} {F : Foot} {W w' : World} {u : Value} (h : Like g F W w') (hc : W.cell? ⟨g, o, none⟩ = some u) : w'.cell? ⟨g, o, none⟩ = some u :=
  (World.cell?_of_block (h.1 g (.inr rfl) (World.block_lt_of_cell? W _ hc))).trans hc
set_option maxRecDepth 100000 in
set_option maxHeartbeats 2000000 in
theorem rvalue_text {w : World} {g : Nat} {F : Foot} {xs : List UInt8} {p d k : Nat} {c : UInt8} {r : List UInt8} (h : RS w g F xs p false) (hF : ∀ k, F k → k < w.heap.size) (hx : xs.drop p = c :: r) (h1 : c.toNat = 2) :
    Calls Try.prog 34 #[.pointer (some ⟨g, 0, none⟩), .int .i64 d] w (RV w g F xs p k) := by
  have HX := Lib.hid hx
  have H0 := Lib.hid (RV0.mk' h hF)
  have hc256 : c.toNat < 256 := c.toNat_lt
  clear h hF hx
  have HC := Lib.hid h1
  have b1 : ((c.toNat : Int) == 1) = false := by simp; omega
  have b2 : ((c.toNat : Int) == 2) = true := by simp; omega
  clear h1
  go_enter Try.func34, Try.ntmps34
  go_wp2_with fail
  refine (next_cons H0.out.rs HX.out).mono ?_
  rintro e w1 ⟨rfl, hr1, hx1, hg1⟩
  have HX1 := Lib.hid hx1
  have HR1 := Lib.hid hr1
  have HV1 := Lib.hid (H0.out.vc.grown hg1 H0.out.hgb)
  have HG1 := Lib.hid (grown_trans H0.out.grown hg1)
  clear hx1 hr1 hg1
  go_wp2_with fail
  refine (rnum_calls HR1.out).mono ?_
  rintro e w2 ⟨u, q, b, rfl, hr2, hn2, hu2, hg2⟩
  rw [HX1.out] at hn2
  have HN2 := Lib.hid hn2
  have HR2 := Lib.hid hr2
  have HV2 := Lib.hid (HV1.out.grown hg2 H0.out.hgb)
  have HG2 := Lib.hid (grown_trans HG1.out hg2)
  have HU := Lib.hid hu2
  clear hn2 hr2 hg2 HV1 HG1 HR1
  have HRES : Hid (valM k (xs.drop p) = (if b then none else if u ≤ (xs.drop q).length then some (⟨2, 0, ⟨((xs.drop q).take u).toArray⟩, []⟩, (xs.drop q).drop u) else none)) := by show valM k (xs.drop p) = _; rw [HX.out]; exact valM_2 HC.out HN2.out
  obtain ⟨⟨e1, e2, e3, e4⟩, e5, e6, e7, e8⟩ := HV2.out.facts
  have hq := HR2.out.le
  have hl63 := HR2.out.len
  have k1 : IntKind.i64.wrap ((xs.length : Int) - (q : Int)) = (xs.length : Int) - (q : Int) := IntWalk.i64_in _ (by omega)
  have k2 : IntKind.u64.wrap ((xs.length : Int) - (q : Int)) = (xs.length : Int) - (q : Int) := by rw [IntKind.wrap_u64]; omega
  obtain ⟨A1, c1, g0, g1, g2, z3, z4, hs⟩ := HR2.out.facts
  have HS := Lib.hid hs
  have hcl := hs.le
  have hcm := hs.max
  unfold maxLen at hcm
  have HVX := Lib.hid (HV2.out.grown (grown_setg (g := g) (o := 2) (u := .bool true)) H0.out.hgb)
  have HVQ := Lib.hid (fun n => (HV2.out.below (below_drewN (Below.refl _ _) n)).grown (grown_setg (g := g) (o := 2) (u := .bool true)) H0.out.hgb)
  have hdl : Hid ((xs.drop q).length = xs.length - q) := List.length_drop
  clear hs
  cases b
  · by_cases hgt : (xs.length : Int) - (q : Int) < (u : Int)
    · obtain ⟨⟨x1, x2, x3, x4⟩, x5, x6, x7, x8⟩ := HVX.out.facts
      go_wp2_with fail
      go_region_held3 (fun w' => w' = w2.drew ∧ w'.cell? ⟨g, 0, none⟩ = some (.slice A1 xs.length c1) ∧ w'.cell? ⟨g, 1, none⟩ = some (.int .i64 q) ∧ w'.cell? ⟨g, 2, none⟩ = some (.bool false)) (first | exact ⟨rfl, g0, g1, g2⟩ | assumption) (fail)
      go_wp2
      have hres := HRES.out
      rw [if_neg (by decide), if_neg (by rw [hdl.out]; omega)] at hres
      simp only [← World.setCell_drew]
      exact rv_leave ((HV2.out.below (below_drew (Below.refl _ _))).grown grown_setg H0.out.hgb) (grown_trans (grown_trans HG2.out (grown_below (below_drew (Below.refl _ _)))) grown_setg) (HR2.out.below (below_drew (Below.refl _ _))).setBad (Nat.le_refl _) H0.out.hgb.symm H0.out.nF rfl (F' := fun _ => False) (fun _ h => h.elim) ⟨0, 0, empty, []⟩ (kZero _ _) hres _ (.inl rfl)
    · have hle : (q : Int) + (u : Int) ≤ (xs.length : Int) := by omega
      have k3 : IntKind.i64.wrap (u : Int) = (u : Int) := IntWalk.i64_in _ (by omega)
      have k4 : IntKind.i64.wrap ((q : Int) + (u : Int)) = (q : Int) + (u : Int) := IntWalk.i64_in _ (by omega)
      have k5 : IntKind.i64.wrap ((q : Int) + (u : Int) - (u : Int)) = (q : Int) := by rw [IntWalk.i64_in _ (by omega)]; omega
      have k6 : IntKind.i64.wrap (q : Int) = (q : Int) := IntWalk.i64_in _ (by omega)
      have k7 : (q : Int) ≤ (q : Int) + (u : Int) := by omega
      have k8 : (q : Int) + (u : Int) ≤ (c1 : Int) := by omega
      have k9 : ((q : Int) + (u : Int)).toNat = q + u := by omega
      have hres := HRES.out
      rw [if_neg (by decide), if_pos (by rw [hdl.out]; omega), List.drop_drop] at hres
      have HRE := Lib.hid hres
      have hRW : RS (w2.setCell ⟨g, 1, none⟩ (.int .i64 ((q : Int) + (u : Int)))) g F xs (q + u) false := HR2.out.setAt (q := q + u) (by omega)
      have HRW := Lib.hid hRW
      have hSW : SL kU8 (w2.setCell ⟨g, 1, none⟩ (.int .i64 ((q : Int) + (u : Int)))) F A1 c1 xs := HS.out.move (fun k hk _ => Below.heap_setCell _ _ _ _ (fun e => HR2.out.not (by subst e; exact hk))) (by simp [World.setCell])
      have HVW := Lib.hid (HV2.out.grown (grown_setg (g := g) (o := 1) (u := .int .i64 ((q : Int) + (u : Int)))) H0.out.hgb)
      have hc0 : (w2.setCell ⟨g, 1, none⟩ (.int .i64 ((q : Int) + (u : Int)))).cell? ⟨g, 0, none⟩ = some (.slice A1 xs.length c1) := by rw [World.cell?_setCell_other]; exact g0; intro e; cases e
      have hc1 : (w2.setCell ⟨g, 1, none⟩ (.int .i64 ((q : Int) + (u : Int)))).cell? ⟨g, 1, none⟩ = some (.int .i64 ((q : Int) + (u : Int))) := by obtain ⟨_, _, _, h, _⟩ := hRW.facts; exact h
      clear hres hRW
      have HSZ : Hid ((⟨((xs.drop q).take u).toArray⟩ : ByteArray).size ≤ maxLen) := bytes_size (by rw [List.length_take]; unfold maxLen; omega)
      have KEEP0 : ∀ w', Like g F (w2.setCell ⟨g, 1, none⟩ (.int .i64 ((q : Int) + (u : Int)))) w' → (fun w' => Hid (RS w' g F xs (q + u) false) ∧ w'.cell? ⟨g, 0, none⟩ = some (.slice A1 xs.length c1) ∧ w'.cell? ⟨g, 1, none⟩ = some (.int .i64 ((q : Int) + (u : Int))) ∧ (convert 27 9 (.slice (if c1 = q then A1 else Option.map (fun x => x.add q) A1) u (c1 - q))).run Try.prog w' = .ok (.string ⟨((xs.drop q).take u).toArray⟩) w') w' := fun w' h => ⟨h.rs HRW.out, h.cell hc0, h.cell hc1, SL.str ((sl_drop (h.sl hSW) (by omega)).take (k := u) (c' := c1 - q) (by rw [hdl.out]; omega) (by omega) (Nat.le_refl _)) (by rw [List.length_take, hdl.out]; omega)⟩
      have KEEP1 := Lib.hid (KEEP0 _ (show Like g F (w2.setCell ⟨g, 1, none⟩ (.int .i64 ((q : Int) + (u : Int)))) (w2.setCell ⟨g, 1, none⟩ (.int .i64 ((q : Int) + (u : Int)))).drew.drew from ⟨fun _ _ _ => rfl, Nat.le_refl _⟩))
      have KEEP2 := Lib.hid (fun s => KEEP0 _ (show Like g F (w2.setCell ⟨g, 1, none⟩ (.int .i64 ((q : Int) + (u : Int)))) (((((w2.setCell ⟨g, 1, none⟩ (.int .i64 ((q : Int) + (u : Int)))).setCell ⟨w.heap.size, 0, none⟩ (.int .i64 2)).setCell ⟨w.heap.size, 1, none⟩ (.int .i64 0)).setCell ⟨w.heap.size, 2, none⟩ (.string s)).setCell ⟨w.heap.size, 3, none⟩ (.slice none 0 0)).drew.drew from (((((Like.refl g F (w2.setCell ⟨g, 1, none⟩ (.int .i64 ((q : Int) + (u : Int))))).set H0.out.nF H0.out.hgb).set H0.out.nF H0.out.hgb).set H0.out.nF H0.out.hgb).set H0.out.nF H0.out.hgb)))
      obtain ⟨⟨x1, x2, x3, x4⟩, x5, x6, x7, x8⟩ := HVW.out.facts
      clear KEEP0 hc0 hc1 hSW
      go_wp2_with fail
      go_region_held3 (fun w' => w' = w2.drew ∧ w'.cell? ⟨g, 0, none⟩ = some (.slice A1 xs.length c1) ∧ w'.cell? ⟨g, 1, none⟩ = some (.int .i64 q) ∧ w'.cell? ⟨g, 2, none⟩ = some (.bool false)) (first | exact ⟨rfl, g0, g1, g2⟩ | assumption) (fail)
      go_wp2_with fail
      go_region_held3 (fun w' => Hid (RS w' g F xs (q + u) false) ∧ w'.cell? ⟨g, 0, none⟩ = some (.slice A1 xs.length c1) ∧ w'.cell? ⟨g, 1, none⟩ = some (.int .i64 ((q : Int) + (u : Int))) ∧ (convert 27 9 (.slice (if c1 = q then A1 else Option.map (fun x => x.add q) A1) u (c1 - q))).run Try.prog w' = .ok (.string ⟨((xs.drop q).take u).toArray⟩) w') (first | (with_reducible exact KEEP1.out) | (with_reducible exact KEEP2.out _) | (with_reducible assumption)) (fail)
      go_wp2
      all_goals
        simp only [← World.setCell_drew]
        exact rv_leave ((HVW.out.below (below_drew (Below.refl _ _))).below (below_drew (Below.refl _ _))) (grown_trans (grown_trans HG2.out grown_setg) (grown_below (below_drew (below_drew (Below.refl _ _))))) (HRW.out.below (below_drew (below_drew (Below.refl _ _)))) (Nat.le_refl _) H0.out.hgb.symm H0.out.nF rfl (F' := fun _ => False) (fun _ h => h.elim) ⟨2, 0, ⟨((xs.drop q).take u).toArray⟩, []⟩ (kT _ _ HSZ.out) HRE.out _ (.inl rfl)
  · have y1 := fun n => (HVQ.out n).facts.1.1
    have y2 := fun n => (HVQ.out n).facts.1.2.1
    have y3 := fun n => (HVQ.out n).facts.1.2.2.1
    have y4 := fun n => (HVQ.out n).facts.1.2.2.2
    have y5 := fun n => (HVQ.out n).facts.2.1
    have y6 := fun n => (HVQ.out n).facts.2.2.1
    have y7 := fun n => (HVQ.out n).facts.2.2.2.1
    have y8 := fun n => (HVQ.out n).facts.2.2.2.2
    have hres := HRES.out
    rw [if_pos rfl] at hres
    have HRE := Lib.hid hres
    clear hres
    go_wp2_with fail
    go_quiet (fail)
    go_wp2
    exact rv_leave ((HV2.out.below (below_drewN (Below.refl _ _) _)).grown grown_setg H0.out.hgb) (grown_trans (grown_trans HG2.out (grown_below (below_drewN (Below.refl _ _) _))) grown_setg) (HR2.out.below (below_drewN (Below.refl _ _) _)).setBad (Nat.le_refl _) H0.out.hgb.symm H0.out.nF rfl (F' := fun _ => False) (fun _ h => h.elim) ⟨0, 0, empty, []⟩ (kZero _ _) HRE.out _ (.inl rfl)
end Go.Proofs.Ytpmokmhakdkpdaa.B
