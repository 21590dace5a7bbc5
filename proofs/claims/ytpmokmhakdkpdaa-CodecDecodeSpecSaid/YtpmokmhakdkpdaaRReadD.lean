import Derived.Test.YtpmokmhakdkpdaaRReadC
import Derived.Test.YtpmokmhakdkpdaaRValueB
namespace Go.Proofs.Ytpmokmhakdkpdaa.B
open Go.RowKit

/-- Where the list's loop stands: i elements are read. v: the block of the list. -/
structure LR (w : World) (g v : Nat) (F : Foot) (xs : List UInt8) (k n p0 i : Nat) (wr : World) (ys : List Val) (q : Nat) (bad : Bool) (rv : Value) (F' : Foot) : Prop where
  vb : w.heap.size < v
  vc : VC wr v 3 0 empty rv
  vc0 : VC wr w.heap.size 0 0 empty (.slice none 0 0)
  own : Own kVal 24 wr (v + 1) F' rv ys
  foot : ∀ k, F' k → v + 1 ≤ k ∧ k < wr.heap.size
  rs : RS wr g F xs q bad
  grown : w.grownBy wr (some g)
  len : ys.length = i
  eqn : listM (valM k) n (xs.drop p0) = (if bad then none else (listM (valM k) (n - i) (xs.drop q)).map fun z => (ys ++ z.1, z.2))

/-- Behind an element: it is read (w3), laid in a block of its own (wb), appended (w4), stored (the end). -/
theorem LR.next {w wr wc w3 wb w4 : World} {g v : Nat} {F : Foot} {xs : List UInt8} {k n p0 i q q' : Nat} {bad : Bool} {ys : List Val} {rv rv' : Value} {F' F3 : Foot} {x : Val}
    (h : LR w g v F xs k n p0 i wr ys q false rv F') (hg : g < w.heap.size) (hF : ∀ k, F k → k < w.heap.size) (hi : i < n) (hv : valM k (xs.drop q) = (if bad then none else some (x, xs.drop q')))
    (hc : Below wr.heap.size wr wc) (h3 : wc.grownBy w3 (some g)) (hF3 : ∀ k, F3 k → wc.heap.size ≤ k ∧ k < w3.heap.size) (hrd : RS w3 g F xs q' bad) (hb : Below w3.heap.size w3 wb)
    (h4 : wb.grownBy w4 rv.ownBlock) (ho : Own kVal 24 w4 (v + 1) (fun k => F' k ∨ F3 k) rv' (ys ++ [x])) :
    LR w g v F xs k n p0 (i + 1) (w4.setCell ⟨v, 3, none⟩ rv') (ys ++ [x]) q' bad rv' (fun k => F' k ∨ F3 k) := by
  have s1 := hc.size
  have s2 := h3.size
  have s3 := hb.size
  have s4 := h4.size
  have s0 := h.grown.size
  have hvb := h.vb
  have hvl := h.vc.lt
  have hown := h.own.lt
  have hown' := ho.lt
  have hne : v ≠ g := by omega
  have hne0 : w.heap.size ≠ g := by omega
  have hrv : (some v : Option Nat) ≠ rv.ownBlock := fun e => by have := (hown _ e.symm).1; omega
  have hrv0 : (some w.heap.size : Option Nat) ≠ rv.ownBlock := fun e => by have := (hown _ e.symm).1; omega
  have hrv' : rv'.ownBlock ≠ some v := fun e => by have := (hown' _ e).1; omega
  have hw4 : w.grownBy w4 (some g) := by
    refine ⟨h4.os.trans (hb.os.trans (h3.os.trans (hc.os.trans h.grown.os))), h4.tape.trans (hb.tape.trans (h3.tape.trans (hc.tape.trans h.grown.tape))), h4.output.trans (hb.output.trans (h3.output.trans (hc.output.trans h.grown.output))), by omega, fun j hj hjg => ?_⟩
    have e4 := h4.block j (by omega) (fun e => by have := (hown _ e.symm).1; omega)
    have e3 := hb.block j (by omega)
    have e2 := h3.block j (by omega) hjg
    have e1 := hc.block j (by omega)
    exact e4.trans (e3.trans (e2.trans (e1.trans (h.grown.block j hj hjg))))
  have hvc3 : VC w3 v 3 0 empty rv := (h.vc.below hc).grown h3 hne
  have hvc4 : VC w4 v 3 0 empty rv := ⟨(h4.block _ (Nat.lt_of_lt_of_le (Nat.lt_of_lt_of_le hvl (by omega)) (Nat.le_refl wb.heap.size)) hrv).trans (hvc3.below hb).heap⟩
  have hvc03 : VC w3 w.heap.size 0 0 empty (.slice none 0 0) := (h.vc0.below hc).grown h3 hne0
  have hvc04 : VC w4 w.heap.size 0 0 empty (.slice none 0 0) := ⟨(h4.block _ (by omega) hrv0).trans (hvc03.below hb).heap⟩
  have hnF : ¬ F v := fun hf => by have := hF _ hf; omega
  refine ⟨hvb, hvc4.set3, ⟨(Below.heap_setCell _ _ _ _ (by show w.heap.size ≠ v; omega)).trans hvc04.heap⟩, ho.step (by simp [World.setCell]) (fun j hj _ => Below.heap_setCell _ _ _ _ ?_), fun j hj => ?_, ?_, grown_setNew hw4 (by omega), by rw [List.length_append, h.len]; rfl, ?_⟩
  · show j ≠ v
    rintro rfl
    rcases hj with (hj | hj) | hj
    · have := (h.foot _ hj).1; omega
    · have := (hF3 _ hj).1; omega
    · exact hrv' hj
  · rw [size_set]
    rcases hj with hj | hj
    · have := h.foot j hj; omega
    · have := hF3 j hj; omega
  · refine RS.setOther (hrd.move (fun j hj hl => ?_) (by omega)) hnF (by omega)
    have hjw : j < w.heap.size := by rcases hj with hj | hj; exact hF _ hj; omega
    exact (h4.block j (by omega) (fun e => by have := (hown _ e.symm).1; omega)).trans (hb.block j hl)
  · have he := h.eqn
    rw [if_neg (by decide)] at he
    rw [he, show n - i = (n - (i + 1)) + 1 by omega, listM, hv]
    cases bad
    · simp only [Option.bind_some, if_false, Bool.false_eq_true]
      cases listM (valM k) (n - (i + 1)) (xs.drop q') with
      | none => rfl
      | some z => simp
    · rfl

/-- The row ahead of the append. -/
theorem LR.own3 {w wr wc w3 wb : World} {g v : Nat} {F : Foot} {xs : List UInt8} {k n p0 i q : Nat} {bad : Bool} {ys : List Val} {rv : Value} {F' F3 : Foot} {x : Val} {cs : List Value}
    (h : LR w g v F xs k n p0 i wr ys q bad rv F') (hg : g < w.heap.size) (hc : Below wr.heap.size wr wc) (h3 : wc.grownBy w3 (some g)) (hF3 : ∀ k, F3 k → wc.heap.size ≤ k ∧ k < w3.heap.size) (hb : Below w3.heap.size w3 wb) (hK : kVal.K w3 F3 x cs) :
    Own kVal 24 wb (v + 1) (fun k => F' k ∨ F3 k) rv ys ∧ kVal.K wb (fun k => F' k ∨ F3 k) x cs ∧ (∀ k, (F' k ∨ F3 k) → k < wb.heap.size) ∧ v + 1 ≤ wb.heap.size := by
  have s1 := hc.size
  have s2 := h3.size
  have s3 := hb.size
  have s0 := h.grown.size
  have hvb := h.vb
  have hvl := h.vc.lt
  have hown := h.own.lt
  refine ⟨?_, ?_, ?_, by omega⟩
  · refine Own.mono (((h.own.below hc).step h3.size (fun j hj hl => h3.block j hl (fun e => ?_))).below hb) (fun j hj _ => .inl hj) (fun j hj hf => ?_)
    · injection e with e
      subst e
      rcases hj with hj | hj
      · have := (h.foot _ hj).1; omega
      · have := (hown _ hj).1; omega
    · rcases hf with hf | hf
      · exact h.own.not j hj hf
      · have := (hF3 j hf).1; have := (hown j hj).2; omega
  · exact Kd.below (kVal.mono (fun j hj _ => .inr hj) hK) hb
  · rintro j (hj | hj)
    · have := (h.foot j hj).2; omega
    · have := (hF3 j hj).2; omega
theorem valM_3 {c : UInt8} {r : List UInt8} {k u : Nat} {b : Bool} {r' : List UInt8} (hc : c.toNat = 3) (hn : numM 0 r = (if b then none else some (u, r'))) : valM (k + 1) (c :: r) = (if b then none else if u ≤ r'.length then (listM (valM k) u r').map fun q => (⟨3, 0, empty, q.1⟩, q.2) else none) := by
  unfold valM
  rw [if_neg (by omega), if_neg (by omega), if_pos hc]
  simp only
  unfold lenM
  rw [hn]
  cases b
  · simp only [Option.bind_some, if_false, Bool.false_eq_true]
    split <;> rfl
  · rfl
theorem valM_30 {c : UInt8} {r : List UInt8} (hc : c.toNat = 3) : valM 0 (c :: r) = none := by
  unfold valM
  rw [if_neg (by omega), if_neg (by omega), if_pos hc]
end Go.Proofs.Ytpmokmhakdkpdaa.B
