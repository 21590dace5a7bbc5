/- The codec's values as a Lean type, what cells say of them, and how an element of a list of them is read. -/
import Derived.Test.YtpmokmhakdkpdaaBase
namespace Go.Proofs.Ytpmokmhakdkpdaa.B
open Go.RowKit

structure Val where
  kind : Int
  n : Int
  s : ByteArray
  l : List Val

theorem Val.ind {P : Val → Prop} (h : ∀ v : Val, (∀ x ∈ v.l, P x) → P v) : ∀ v, P v := by
  intro v
  induction v using Val.rec (motive_2 := fun l => ∀ x ∈ l, P x) with
  | mk k n s l ih => exact h _ ih
  | nil => rename_i x hx; cases hx
  | cons a r ha hr =>
    rename_i x hx
    rcases List.mem_cons.1 hx with rfl | hx
    · exact ha
    · exact hr x hx

inductive KVal (w : World) (F : Foot) : Val → List Value → Prop
  | mk (x : Val) (A : Option Addr) (c : Nat) (css : Nat → List Value) (hk : I64 x.kind) (hn : I64 x.n) (hs : x.s.size ≤ maxLen) (hl : x.l.length ≤ c) (hc : c ≤ maxLen)
      (hr : ∀ j y, x.l[j]? = some y → KVal w F y (css j))
      (hcell : ∀ j y, x.l[j]? = some y → ∃ ad, A = some ad ∧ F ad.block ∧ ad.block < w.heap.size ∧ ∀ i u, (css j)[i]? = some u → w.cell? (ad.add (j * 4 + i)) = some u) :
      KVal w F x [.int .i64 x.kind, .int .i64 x.n, .string x.s, .slice A x.l.length c]

theorem KVal.step {w w' : World} {F F' : Foot} (hf : ∀ k, F k → k < w.heap.size → F' k) (hm : ∀ k, F k → k < w.heap.size → w'.heap[k]? = w.heap[k]?) (hs : w.heap.size ≤ w'.heap.size)
    {x : Val} {cs : List Value} (h : KVal w F x cs) : KVal w' F' x cs := by
  induction h with
  | mk x A c css hk hn hsz hl hc hr hcell ih =>
    refine .mk x A c css hk hn hsz hl hc ih (fun j y hj => ?_)
    obtain ⟨ad, hA, hF, hlt, hcl⟩ := hcell j y hj
    exact ⟨ad, hA, hf _ hF hlt, Nat.lt_of_lt_of_le hlt hs, fun i u hu => (World.cell?_of_block (by rw [block_add]; exact hm _ hF hlt)).trans (hcl i u hu)⟩

def kVal : Kd Val where
  sz := 4
  K := KVal
  len := by rintro w F x cs ⟨⟩; rfl
  one := by
    rintro w F x cs ⟨⟩ u hu
    simp only [List.mem_cons, List.not_mem_nil, or_false] at hu
    rcases hu with rfl | rfl | rfl | rfl <;> rfl
  mono := fun hf h => h.step hf (fun _ _ _ => rfl) (Nat.le_refl _)
  move := fun hm hs h => h.step (fun _ hk _ => hk) hm hs

theorem kVal_open {w : World} {F : Foot} {x : Val} {cs : List Value} (h : kVal.K w F x cs) :
    ∃ A c, cs = [.int .i64 x.kind, .int .i64 x.n, .string x.s, .slice A x.l.length c] ∧ I64 x.kind ∧ I64 x.n ∧ x.s.size ≤ maxLen ∧ SL kVal w F A c x.l := by
  cases h with
  | mk _ A c css hk hn hs hl hc hr hcell =>
  refine ⟨A, c, rfl, hk, hn, hs, hl, hc, fun j y hj => ?_⟩
  obtain ⟨ad, hA, hF, hlt, hcl⟩ := hcell j y hj
  exact ⟨ad, css j, hA, hF, hlt, hr j y hj, hcl⟩
theorem kVal_mk {w : World} {F : Foot} (x : Val) {A : Option Addr} {c : Nat} (hk : I64 x.kind) (hn : I64 x.n) (hs : x.s.size ≤ maxLen) (h : SL kVal w F A c x.l) :
    kVal.K w F x [.int .i64 x.kind, .int .i64 x.n, .string x.s, .slice A x.l.length c] := by
  have hex : ∀ j, ∃ cs, ∀ y, x.l[j]? = some y → kVal.K w F y cs ∧ ∃ ad, A = some ad ∧ F ad.block ∧ ad.block < w.heap.size ∧ ∀ i u, cs[i]? = some u → w.cell? (ad.add (j * 4 + i)) = some u := by
    intro j
    cases hj : x.l[j]? with
    | none => exact ⟨[], fun y hy => by cases hy⟩
    | some y =>
      obtain ⟨ad, cs, hA, hF, hlt, hK, hcl⟩ := h.row j y hj
      exact ⟨cs, fun y' hy => by cases hy; exact ⟨hK, ad, hA, hF, hlt, hcl⟩⟩
  exact .mk x A c (fun j => (hex j).choose) hk hn hs h.le h.max (fun j y hj => ((hex j).choose_spec y hj).1) (fun j y hj => ((hex j).choose_spec y hj).2)

/-- An element of a list of values, as the walk reads it. -/
theorem val_at {w : World} {F : Foot} {A : Option Addr} {c : Nat} {xs : List Val} (h : SL kVal w F A c xs) {i : Nat} (hi : i < xs.length) :
    ∃ ad A' c', A = some ad ∧ w.cell? (ad.add (i * 4)) = some (.int .i64 xs[i].kind) ∧ w.cell? ⟨(ad.add (i * 4)).block, (ad.add (i * 4)).off + 1, none⟩ = some (.int .i64 xs[i].n) ∧
      w.cell? ⟨(ad.add (i * 4)).block, (ad.add (i * 4)).off + 2, none⟩ = some (.string xs[i].s) ∧ w.cell? ⟨(ad.add (i * 4)).block, (ad.add (i * 4)).off + 3, none⟩ = some (.slice A' xs[i].l.length c') ∧
      kVal.K w F xs[i] [.int .i64 xs[i].kind, .int .i64 xs[i].n, .string xs[i].s, .slice A' xs[i].l.length c'] := by
  obtain ⟨ad, cs, hA, _, _, hK, hc⟩ := h.row.at_ hi
  obtain ⟨A', c', rfl, _⟩ := kVal_open hK
  refine ⟨ad, A', c', hA, ?_, ?_, ?_, ?_, hK⟩
  · exact hc 0 _ rfl
  · rw [← add_field _ _ 1 (by omega)]; exact hc 1 _ rfl
  · rw [← add_field _ _ 2 (by omega)]; exact hc 2 _ rfl
  · rw [← add_field _ _ 3 (by omega)]; exact hc 3 _ rfl
end Go.Proofs.Ytpmokmhakdkpdaa.B
