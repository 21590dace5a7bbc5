import Derived.Test.YtpmokmhakdkpdaaRReadA
import Derived.Test.YtpmokmhakdkpdaaSane
import Derived.Test.YtpmokmhakdkpdaaCodecLaws
import Derived.Deep.QuietTactic
import Derived.BigQuiet
namespace Go.Proofs.Ytpmokmhakdkpdaa.B
open Go.RowKit

/-- The reference's Value: what it hands back, and where its reader stands. -/
def RV (w : World) (g : Nat) (F : Foot) (xs : List UInt8) (p k : Nat) (e : Ending) (w' : World) : Prop :=
  w.grownBy w' (some g) ∧ ∃ (x : Val) (cs : List Value) (F' : Foot) (q : Nat) (b : Bool), e = .returned (.agg cs.toArray) ∧ kVal.K w' F' x cs ∧ (∀ k, F' k → w.heap.size ≤ k ∧ k < w'.heap.size) ∧ RS w' g F xs q b ∧
    valM k (xs.drop p) = (if b then none else some (x, xs.drop q))

theorem VC.grownG {w w' : World} {b : Nat} {k n : Int} {s : ByteArray} {l : Value} {g : Nat} (h : VC w b k n s l) (hg : w.grownBy w' (some g)) (hne : b ≠ g) : VC w' b k n s l := h.grown hg hne
theorem RS.set4 {w : World} {g v : Nat} {F : Foot} {xs : List UInt8} {q : Nat} {b : Bool} {u0 u1 u2 u3 : Value} (h : RS w g F xs q b) (hv : ¬ F v) (hg : g ≠ v) :
    RS ((((w.setCell ⟨v, 0, none⟩ u0).setCell ⟨v, 1, none⟩ u1).setCell ⟨v, 2, none⟩ u2).setCell ⟨v, 3, none⟩ u3) g F xs q b :=
  (((h.setOther hv hg).setOther hv hg).setOther hv hg).setOther hv hg

theorem rv_leave {w w2 : World} {g b : Nat} {F : Foot} {xs : List UInt8} {p q kk : Nat} {bad : Bool} {k0 n0 k n : Int} {s0 s : ByteArray} {l0 l : Value} (HV : VC w2 b k0 n0 s0 l0) (HG : w.grownBy w2 (some g)) (HR : RS w2 g F xs q bad) (hb : w.heap.size ≤ b) (hgb : g ≠ b) (hnF : ¬ F b)
    {tmps : Array Value} (hp : tmps.getD 4 undef = .pointer (some ⟨b, 0, none⟩)) {F' : Foot} (hF' : ∀ k, F' k → w.heap.size ≤ k ∧ k < w2.heap.size ∧ k ≠ b) (x : Val) (hx : kVal.K w2 F' x [.int .i64 k, .int .i64 n, .string s, l])
    (heq : valM kk (xs.drop p) = (if bad then none else some (x, xs.drop q))) (ex : Exit) (hex : ex = .ret ∨ ex = .normal) :
    bodyPost Try.prog Try.f34 (RV w g F xs p kk) ex { tmps := tmps, defers := [] }
      ((((w2.setCell ⟨b, 0, none⟩ (.int .i64 k)).setCell ⟨b, 1, none⟩ (.int .i64 n)).setCell ⟨b, 2, none⟩ (.string s)).setCell ⟨b, 3, none⟩ l) := by
  have hR : RV w g F xs p kk (.returned (.agg #[.int .i64 k, .int .i64 n, .string s, l])) ((((w2.setCell ⟨b, 0, none⟩ (.int .i64 k)).setCell ⟨b, 1, none⟩ (.int .i64 n)).setCell ⟨b, 2, none⟩ (.string s)).setCell ⟨b, 3, none⟩ l) := by
    refine ⟨grown_setNew (grown_setNew (grown_setNew (grown_setNew HG hb) hb) hb) hb, x, _, F', q, bad, rfl, ?_, fun k hk => ?_, HR.set4 hnF hgb, heq⟩
    · refine kVal.move (fun k hk hl => ?_) (by simp [World.setCell]) hx
      have hne := (hF' k hk).2.2
      rw [Below.heap_setCell _ _ _ _ hne, Below.heap_setCell _ _ _ _ hne, Below.heap_setCell _ _ _ _ hne, Below.heap_setCell _ _ _ _ hne]
    · have := hF' k hk
      simp only [World.setCell, Array.size_modify]
      exact ⟨this.1, this.2.1⟩
  rcases hex with rfl | rfl
  · exact bodyPost_ret (results_cell rfl _ _ b _ _ _ _ hp ((((HV.set0.set1).set2).set3).heap) Try.underlying24 rfl (by kernel_rfl)) rfl hR
  · exact bodyPost_end (results_cell rfl _ _ b _ _ _ _ hp ((((HV.set0.set1).set2).set3).heap) Try.underlying24 rfl (by kernel_rfl)) rfl hR

/-- What a walk of Value begins with. -/
structure RV0 (w : World) (g : Nat) (F : Foot) (xs : List UInt8) (p : Nat) : Prop where
  lt : g < w.heap.size
  hgb : w.heap.size ≠ g
  old : ∀ k, F k → k < w.heap.size
  rs : RS (w.alloc (.cells #[.int .i64 0, .int .i64 0, .string ⟨#[]⟩, .slice none 0 0] 24)) g F xs p false
  vc : VC (w.alloc (.cells #[.int .i64 0, .int .i64 0, .string ⟨#[]⟩, .slice none 0 0] 24)) w.heap.size 0 0 ⟨#[]⟩ (.slice none 0 0)
  grown : w.grownBy (w.alloc (.cells #[.int .i64 0, .int .i64 0, .string ⟨#[]⟩, .slice none 0 0] 24)) (some g)
  nF : ¬ F w.heap.size
theorem RV0.mk' {w : World} {g : Nat} {F : Foot} {xs : List UInt8} {p : Nat} (h : RS w g F xs p false) (hF : ∀ k, F k → k < w.heap.size) : RV0 w g F xs p :=
  ⟨h.lt, by have := h.lt; omega, hF, h.below (below_box (Below.refl _ _) _), VC.new w 0 0 ⟨#[]⟩ (.slice none 0 0), grown_below (below_box (Below.refl _ _) _), fun h => absurd (hF _ h) (Nat.lt_irrefl _)⟩
theorem kZero (w : World) (F : Foot) : kVal.K w F ⟨0, 0, empty, []⟩ [.int .i64 0, .int .i64 0, .string ⟨#[]⟩, .slice none 0 0] :=
  kVal_mk ⟨0, 0, empty, []⟩ i64_0 i64_0 empty_le (SL.nil (Nat.zero_le _))

set_option maxRecDepth 100000 in
set_option maxHeartbeats 2000000 in
theorem rvalue_nil {w : World} {g : Nat} {F : Foot} {xs : List UInt8} {p d k : Nat} (h : RS w g F xs p false) (hF : ∀ k, F k → k < w.heap.size) (hx : xs.drop p = []) :
    Calls Try.prog 34 #[.pointer (some ⟨g, 0, none⟩), .int .i64 d] w (RV w g F xs p k) := by
  have HX := Lib.hid hx
  have H0 := Lib.hid (RV0.mk' h hF)
  clear h hF hx
  have hnone : Hid (valM k (xs.drop p) = none) := by show valM k (xs.drop p) = none; rw [HX.out]; unfold valM; rfl
  go_enter Try.func34, Try.ntmps34
  go_wp2_with (go_at_call 48; refine (next_nil H0.out.rs HX.out).mono ?_; rintro e w1 ⟨rfl, hr1, hg1⟩; obtain ⟨A1, c1, g0, g1, g2, z3, z4, _⟩ := hr1.facts; have HV1 := Lib.hid (H0.out.vc.grown hg1 H0.out.hgb); obtain ⟨⟨f1, f2, f3, f4⟩, f5, f6, f7, f8⟩ := HV1.out.facts; obtain ⟨⟨e1, e2, e3, e4⟩, e5, e6, e7, e8⟩ := (VC.grown HV1.out (grown_setg (g := g) (o := 2) (u := .bool true)) H0.out.hgb).facts)
  exact rv_leave (VC.grown HV1.out grown_setg H0.out.hgb) (grown_trans (grown_trans H0.out.grown hg1) grown_setg) hr1.setBad (Nat.le_refl _) H0.out.hgb.symm H0.out.nF rfl (F' := fun _ => False) (fun _ h => h.elim) ⟨0, 0, empty, []⟩ (kZero _ _) hnone.out _ (.inl rfl)

set_option maxRecDepth 100000 in
set_option maxHeartbeats 2000000 in
theorem rvalue_bad {w : World} {g : Nat} {F : Foot} {xs : List UInt8} {p d k : Nat} {c : UInt8} {r : List UInt8} (h : RS w g F xs p false) (hF : ∀ k, F k → k < w.heap.size) (hx : xs.drop p = c :: r) (h1 : c.toNat ≠ 1) (h2 : c.toNat ≠ 2) (h3 : c.toNat ≠ 3) :
    Calls Try.prog 34 #[.pointer (some ⟨g, 0, none⟩), .int .i64 d] w (RV w g F xs p k) := by
  have HX := Lib.hid hx
  have H0 := Lib.hid (RV0.mk' h hF)
  have hc256 : c.toNat < 256 := c.toNat_lt
  clear h hF hx
  have hnone : Hid (valM k (xs.drop p) = none) := by show valM k (xs.drop p) = none; rw [HX.out]; unfold valM; rw [if_neg h1, if_neg h2, if_neg h3]
  go_enter Try.func34, Try.ntmps34
  go_wp2_with fail
  refine (next_cons H0.out.rs HX.out).mono ?_
  rintro e w1 ⟨rfl, hr1, hx1, hg1⟩
  have HX1 := Lib.hid hx1
  have HR1 := Lib.hid hr1
  have HV1 := Lib.hid (H0.out.vc.grown hg1 H0.out.hgb)
  have HG1 := Lib.hid (grown_trans H0.out.grown hg1)
  clear hx1 hr1 hg1
  obtain ⟨A1, c1, g0, g1, g2, z3, z4, _⟩ := HR1.out.facts
  obtain ⟨⟨e1, e2, e3, e4⟩, e5, e6, e7, e8⟩ := (VC.grown HV1.out (grown_setg (g := g) (o := 2) (u := .bool true)) H0.out.hgb).facts
  go_wp2
  exact rv_leave (VC.grown HV1.out grown_setg H0.out.hgb) (grown_trans HG1.out grown_setg) HR1.out.setBad (Nat.le_refl _) H0.out.hgb.symm H0.out.nF rfl (F' := fun _ => False) (fun _ h => h.elim) ⟨0, 0, empty, []⟩ (kZero _ _) hnone.out _ (.inl rfl)

theorem zag_odd {u : Nat} (h : u % 2 = 1) : zag u = -((u : Int) / 2) - 1 := by unfold zag; rw [if_neg (by omega)]; omega
theorem zag_even {u : Nat} (h : u % 2 = 0) : zag u = (u : Int) / 2 := by unfold zag; rw [if_pos h]; omega
theorem valM_1 {c : UInt8} {r : List UInt8} {k u : Nat} {b : Bool} {r' : List UInt8} (hc : c.toNat = 1) (hn : numM 0 r = (if b then none else some (u, r'))) : valM k (c :: r) = (if b then none else some (⟨1, zag u, empty, []⟩, r')) := by
  unfold valM
  rw [if_pos hc, hn]
  cases b <;> rfl
set_option maxRecDepth 100000 in
set_option maxHeartbeats 2000000 in
theorem rvalue_int {w : World} {g : Nat} {F : Foot} {xs : List UInt8} {p d k : Nat} {c : UInt8} {r : List UInt8} (h : RS w g F xs p false) (hF : ∀ k, F k → k < w.heap.size) (hx : xs.drop p = c :: r) (h1 : c.toNat = 1) :
    Calls Try.prog 34 #[.pointer (some ⟨g, 0, none⟩), .int .i64 d] w (RV w g F xs p k) := by
  have HX := Lib.hid hx
  have H0 := Lib.hid (RV0.mk' h hF)
  have hc256 : c.toNat < 256 := c.toNat_lt
  clear h hF hx
  have HC := Lib.hid h1
  have b1 : ((c.toNat : Int) == 1) = true := by simp; omega
  clear h1
  go_enter Try.func34, Try.ntmps34
  go_wp2_with fail
  refine (next_cons H0.out.rs HX.out).mono ?_
  rintro e w1 ⟨rfl, hr1, hx1, hg1⟩
  have HX1 := Lib.hid hx1
  have HR1 := Lib.hid hr1
  have HV1 := Lib.hid (H0.out.vc.grown hg1 H0.out.hgb)
  have HG1 := Lib.hid (grown_trans H0.out.grown hg1)
  clear hx1 hr1 hg1
  go_wp2_with fail
  refine (rnum_calls HR1.out).mono ?_
  rintro e w2 ⟨u, q, b, rfl, hr2, hn2, hu2, hg2⟩
  rw [HX1.out] at hn2
  have HN2 := Lib.hid hn2
  have HR2 := Lib.hid hr2
  have HV2 := Lib.hid (HV1.out.grown hg2 H0.out.hgb)
  have HG2 := Lib.hid (grown_trans HG1.out hg2)
  have HU := Lib.hid hu2
  clear hn2 hr2 hg2 HV1 HG1 HR1
  have HRES : Hid (valM k (xs.drop p) = (if b then none else some (⟨1, zag u, empty, []⟩, xs.drop q))) := by show valM k (xs.drop p) = _; rw [HX.out]; exact valM_1 HC.out HN2.out
  obtain ⟨⟨e1, e2, e3, e4⟩, e5, e6, e7, e8⟩ := HV2.out.facts
  rcases Nat.mod_two_eq_zero_or_one u with hu | hu
  · have HUU := Lib.hid hu
    have b2 : ((u : Int) % 2 == 1) = false := by simp; omega
    clear hu
    go_wp2
    have hz := zag_in HU.out
    have hres := HRES.out
    rw [zag_even HUU.out] at hres hz
    exact rv_leave HV2.out HG2.out HR2.out (Nat.le_refl _) H0.out.hgb.symm H0.out.nF rfl (F' := fun _ => False) (fun _ h => h.elim) ⟨1, (u : Int) / 2, empty, []⟩ (kI _ _ hz) hres _ (.inl rfl)
  · have HUU := Lib.hid hu
    have b2 : ((u : Int) % 2 == 1) = true := by simp; omega
    clear hu
    go_wp2
    have hz := zag_in HU.out
    have hres := HRES.out
    rw [zag_odd HUU.out] at hres hz
    exact rv_leave HV2.out HG2.out HR2.out (Nat.le_refl _) H0.out.hgb.symm H0.out.nF rfl (F' := fun _ => False) (fun _ h => h.elim) ⟨1, -((u : Int) / 2) - 1, empty, []⟩ (kI _ _ hz) hres _ (.inl rfl)

end Go.Proofs.Ytpmokmhakdkpdaa.B
