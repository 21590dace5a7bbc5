/- The words of this seat's proofs: what cells say of a value (kinds with a footprint), rows that are read, rows of the call's own. No program in sight. -/
import Derived.WalkKit
import Derived.Below
import Derived.Laws.OwnMore
import Derived.Deep.Draws
import Derived.Deep.AppendLies
import Derived.OwnWalk
import Derived.KernelRfl
import Derived.Lib.Hide
namespace Go.Proofs.Ytmcdimcjmafaoaa.B
set_option linter.unusedVariables false
set_option linter.unusedSimpArgs false
open Go.RowKit

abbrev Foot := Nat → Prop

theorem block_add (a : Addr) (n : Nat) : (a.add n).block = a.block := by unfold Addr.add; split <;> rfl
theorem add_add (a : Addr) (i j : Nat) : (a.add i).add j = a.add (i + j) := by
  unfold Addr.add
  by_cases hi : i = 0 <;> by_cases hj : j = 0 <;> simp [hi, hj, Nat.add_assoc]
theorem add_field (a : Addr) (k i : Nat) (hi : 0 < i) : a.add (k + i) = ⟨(a.add k).block, (a.add k).off + i, none⟩ := by
  rw [← add_add]
  unfold Addr.add
  rw [if_neg (by omega)]

/-- What cells say of a value of type α: F: the blocks that it leads to. -/
structure Kd (α : Type) where
  sz : Nat
  K : World → Foot → α → List Value → Prop
  len : ∀ {w F x cs}, K w F x cs → cs.length = sz
  one : ∀ {w F x cs}, K w F x cs → ∀ u ∈ cs, u.oneCell' = true
  mono : ∀ {w F F' x cs}, (∀ k, F k → k < w.heap.size → F' k) → K w F x cs → K w F' x cs
  move : ∀ {w w' F x cs}, (∀ k, F k → k < w.heap.size → w'.heap[k]? = w.heap[k]?) → w.heap.size ≤ w'.heap.size → K w F x cs → K w' F x cs

/-- A row of elements that is read. -/
def Row {α : Type} (d : Kd α) (w : World) (F : Foot) (A : Option Addr) (xs : List α) : Prop :=
  ∀ j x, xs[j]? = some x → ∃ ad cs, A = some ad ∧ F ad.block ∧ ad.block < w.heap.size ∧ d.K w F x cs ∧ ∀ i u, cs[i]? = some u → w.cell? (ad.add (j * d.sz + i)) = some u

/-- A slice's three words. -/
structure SL {α : Type} (d : Kd α) (w : World) (F : Foot) (A : Option Addr) (c : Nat) (xs : List α) : Prop where
  le : xs.length ≤ c
  max : c ≤ maxLen
  row : Row d w F A xs

section
variable {α : Type} {d : Kd α} {w w' : World} {F F' : Foot} {A : Option Addr} {c : Nat} {xs : List α} {x : α} {cs : List Value}
theorem Row.mono (hf : ∀ k, F k → k < w.heap.size → F' k) (h : Row d w F A xs) : Row d w F' A xs := fun j x hj => by
  obtain ⟨ad, cs, hA, hF, hl, hK, hc⟩ := h j x hj
  exact ⟨ad, cs, hA, hf _ hF hl, hl, d.mono hf hK, hc⟩
theorem Row.move (hm : ∀ k, F k → k < w.heap.size → w'.heap[k]? = w.heap[k]?) (hs : w.heap.size ≤ w'.heap.size) (h : Row d w F A xs) : Row d w' F A xs := fun j x hj => by
  obtain ⟨ad, cs, hA, hF, hl, hK, hc⟩ := h j x hj
  exact ⟨ad, cs, hA, hF, Nat.lt_of_lt_of_le hl hs, d.move hm hs hK, fun i u hu => (World.cell?_of_block (by rw [block_add]; exact hm _ hF hl)).trans (hc i u hu)⟩
theorem SL.mono (hf : ∀ k, F k → k < w.heap.size → F' k) (h : SL d w F A c xs) : SL d w F' A c xs := ⟨h.le, h.max, h.row.mono hf⟩
theorem SL.move (hm : ∀ k, F k → k < w.heap.size → w'.heap[k]? = w.heap[k]?) (hs : w.heap.size ≤ w'.heap.size) (h : SL d w F A c xs) : SL d w' F A c xs := ⟨h.le, h.max, h.row.move hm hs⟩
theorem Kd.below (h : d.K w F x cs) (hb : Below w.heap.size w w') : d.K w' F x cs := d.move (fun k _ hk => hb.block k hk) hb.size h
theorem Row.below (h : Row d w F A xs) (hb : Below w.heap.size w w') : Row d w' F A xs := h.move (fun k _ hk => hb.block k hk) hb.size
theorem SL.below (h : SL d w F A c xs) (hb : Below w.heap.size w w') : SL d w' F A c xs := h.move (fun k _ hk => hb.block k hk) hb.size
theorem Row.nil : Row d w F A ([] : List α) := fun j x hj => by simp at hj
theorem SL.nil (hc : c ≤ maxLen) : SL d w F A c ([] : List α) := ⟨Nat.zero_le _, hc, Row.nil⟩
/-- The element at place i. -/
theorem Row.at_ (h : Row d w F A xs) {i : Nat} (hi : i < xs.length) : ∃ ad cs, A = some ad ∧ F ad.block ∧ ad.block < w.heap.size ∧ d.K w F xs[i] cs ∧ ∀ j u, cs[j]? = some u → w.cell? (ad.add (i * d.sz + j)) = some u :=
  h i _ (List.getElem?_eq_getElem hi)
/-- A slice's tail 's[k:]'. -/
theorem SL.drop (h : SL d w F A c xs) {k : Nat} (hk : k ≤ xs.length) : SL d w F (if c = k then A else A.map (·.add (k * d.sz))) (c - k) (xs.drop k) := by
  refine ⟨by rw [List.length_drop]; have := h.le; omega, by have := h.max; omega, fun j x hj => ?_⟩
  rw [List.getElem?_drop] at hj
  have hjl := (List.getElem?_eq_some_iff.1 hj).1
  obtain ⟨ad, cs, hA, hF, hl, hK, hc⟩ := h.row _ x hj
  have hck : ¬ c = k := by have := h.le; omega
  rw [if_neg hck, hA]
  refine ⟨ad.add (k * d.sz), cs, rfl, by rw [block_add]; exact hF, by rw [block_add]; exact hl, hK, fun i u hu => ?_⟩
  rw [add_add, show k * d.sz + (j * d.sz + i) = (k + j) * d.sz + i by rw [Nat.add_mul, Nat.add_assoc]]
  exact hc i u hu
theorem SL.take (h : SL d w F A c xs) {k c' : Nat} (hk : k ≤ xs.length) (hc : k ≤ c') (hc' : c' ≤ c) : SL d w F A c' (xs.take k) := by
  refine ⟨by rw [List.length_take]; omega, by have := h.max; omega, fun j x hj => ?_⟩
  rw [List.getElem?_take] at hj
  split at hj
  · exact h.row j x hj
  · cases hj
end

/-! ### the kinds -/
def IntOk (k : IntKind) (x : Int) : Prop := k.min ≤ x ∧ x ≤ k.max
def I64 (x : Int) : Prop := -9223372036854775808 ≤ x ∧ x ≤ 9223372036854775807
def kI64 : Kd Int where
  sz := 1
  K := fun _ _ x cs => cs = [.int .i64 x] ∧ I64 x
  len := fun h => by rw [h.1]; rfl
  one := fun h u hu => by rw [h.1] at hu; rw [List.mem_singleton.1 hu]; rfl
  mono := fun _ h => h
  move := fun _ _ h => h
def kU8 : Kd UInt8 where
  sz := 1
  K := fun _ _ x cs => cs = [.int .u8 x.toNat]
  len := fun h => by rw [h]; rfl
  one := fun h u hu => by rw [h] at hu; rw [List.mem_singleton.1 hu]; rfl
  mono := fun _ h => h
  move := fun _ _ h => h
def kBool : Kd Bool where
  sz := 1
  K := fun _ _ x cs => cs = [.bool x]
  len := fun h => by rw [h]; rfl
  one := fun h u hu => by rw [h] at hu; rw [List.mem_singleton.1 hu]; rfl
  mono := fun _ h => h
  move := fun _ _ h => h
/-- Slices as elements. -/
def kSl {α : Type} (d : Kd α) : Kd (List α) where
  sz := 1
  K := fun w F xs cs => ∃ A c, cs = [.slice A xs.length c] ∧ SL d w F A c xs
  len := by rintro w F x cs ⟨A, c, rfl, _⟩; rfl
  one := by rintro w F x cs ⟨A, c, rfl, _⟩ u hu; rw [List.mem_singleton.1 hu]; rfl
  mono := by rintro w F F' x cs hf ⟨A, c, rfl, h⟩; exact ⟨A, c, rfl, h.mono hf⟩
  move := by rintro w w' F x cs hm hs ⟨A, c, rfl, h⟩; exact ⟨A, c, rfl, h.move hm hs⟩
abbrev kBytes : Kd (List UInt8) := kSl kU8
abbrev kRows : Kd (List (List UInt8)) := kSl kBytes

section
variable {w : World} {F : Foot} {ad : Addr} {c : Nat}
/-- A byte of a slice, as the walk asks for it. -/
theorem SL.byte {A : Option Addr} {xs : List UInt8} (h : SL kU8 w F A c xs) {i : Nat} (hi : i < xs.length) : ∃ ad, A = some ad ∧ w.cell? (ad.add i) = some (.int .u8 (xs[i].toNat)) := by
  obtain ⟨ad, cs, hA, _, _, hK, hc⟩ := h.row.at_ hi
  have := hc 0 (.int .u8 (xs[i].toNat)) (by rw [show cs = _ from hK]; rfl)
  exact ⟨ad, hA, by simpa [kU8] using this⟩
end

/-! ### Below, in steps -/
theorem below_alloc {B : Nat} {a w : World} (h : Below B a w) (o : Obj) (hB : B ≤ w.heap.size) : Below B a (w.alloc o) := h.alloc hB o
theorem below_drewN {B : Nat} {a w : World} (h : Below B a w) (n : Nat) : Below B a (w.drewN n) := h.trans ⟨rfl, rfl, rfl, Nat.le_refl _, fun _ _ => rfl⟩
theorem below_then {a w w' : World} (h : Below a.heap.size a w) (h' : Below w.heap.size w w') : Below a.heap.size a w' := h.trans (h'.mono h.size)
theorem below_box {a w : World} (h : Below a.heap.size a w) (o : Obj) : Below a.heap.size a (w.alloc o) := h.alloc h.size o
theorem below_drew {B : Nat} {a w : World} (h : Below B a w) : Below B a w.drew := h.drew
/-- Old cells and marks, as two rules for the walk. -/
theorem bcell {W w1 : World} (hb : Below W.heap.size W w1) : (∀ b o, b < W.heap.size → w1.cell? ⟨b, o, none⟩ = W.cell? ⟨b, o, none⟩) ∧ (∀ b o, b < W.heap.size → w1.frozen? ⟨b, o, none⟩ = W.frozen? ⟨b, o, none⟩) :=
  ⟨fun b o h => hb.cell (p := ⟨b, o, none⟩) h, fun b o h => hb.frozen (p := ⟨b, o, none⟩) h⟩
theorem ret_int {k : IntKind} {a b : Int} (h : a = b) : Ending.returned (.int k a) = .returned (.int k b) := by rw [h]
theorem held4 {w w' : World} {g : Nat} {a b c d : Value} (hb : Below w.heap.size w w') (hg : g < w.heap.size) (h : (w.cell? ⟨g, 0, none⟩ = some (a) ∧ w.cell? ⟨g, 1, none⟩ = some (b) ∧ w.cell? ⟨g, 2, none⟩ = some (c) ∧ w.cell? ⟨g, 3, none⟩ = some (d))) : (w'.cell? ⟨g, 0, none⟩ = some (a) ∧ w'.cell? ⟨g, 1, none⟩ = some (b) ∧ w'.cell? ⟨g, 2, none⟩ = some (c) ∧ w'.cell? ⟨g, 3, none⟩ = some (d)) :=
  ⟨(hb.cell (p := ⟨g, 0, none⟩) hg).trans h.1, (hb.cell (p := ⟨g, 1, none⟩) hg).trans h.2.1, (hb.cell (p := ⟨g, 2, none⟩) hg).trans h.2.2.1, (hb.cell (p := ⟨g, 3, none⟩) hg).trans h.2.2.2⟩
theorem held4_new (w : World) (a b c d : Value) (t : TypeId) : ((w.alloc (.cells #[a, b, c, d] t)).cell? ⟨w.heap.size, 0, none⟩ = some (a) ∧ (w.alloc (.cells #[a, b, c, d] t)).cell? ⟨w.heap.size, 1, none⟩ = some (b) ∧ (w.alloc (.cells #[a, b, c, d] t)).cell? ⟨w.heap.size, 2, none⟩ = some (c) ∧ (w.alloc (.cells #[a, b, c, d] t)).cell? ⟨w.heap.size, 3, none⟩ = some (d)) := by
  exact ⟨World.cell?_alloc_at _ _ _ _ rfl, World.cell?_alloc_at _ _ _ _ rfl, World.cell?_alloc_at _ _ _ _ rfl, World.cell?_alloc_at _ _ _ _ rfl⟩
end Go.Proofs.Ytmcdimcjmafaoaa.B
