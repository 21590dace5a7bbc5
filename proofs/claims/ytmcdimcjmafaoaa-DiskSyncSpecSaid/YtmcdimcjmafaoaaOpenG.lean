/- What came in, opened: what can be read as data is told by the kinds (whatever the types). -/
import Derived.Test.YtmcdimcjmafaoaaKinds
import Derived.Test.YtmcdimcjmafaoaaProg
import Derived.Deep.Slices
import Derived.ChangeArms
namespace Go.Proofs.Ytmcdimcjmafaoaa.B
set_option linter.unusedVariables false
set_option linter.unusedSimpArgs false
open Go.RowKit

def Opens {α : Type} (P : Program) (n : Nat) (t : TypeId) (d : Kd α) : Prop :=
  ∀ {H : Type} {enc : TypeId × Value → H} {w : World} {sp : Nat → Bool} {held : Bool} {cs : List Value} {x : DataW H × List MemPlace}, DataW.trod enc P w 0 sp held n t cs = some x → ∃ a, d.K w (Old w) a cs
theorem opens_int {P : Program} {t : TypeId} (ht : P.underlying t = some (.int .i64)) (n : Nat) : Opens P n t kI64 := by
  intro H enc w sp held cs x h
  obtain ⟨z, rfl, _, hw⟩ := DataW.trod_int ht h
  have hw' : (IntKind.i64.min ≤ z ∧ z ≤ IntKind.i64.max) := by simpa [Lit.wf, IntKind.has] using hw
  exact ⟨z, rfl, hw'⟩
theorem opens_u8 {P : Program} {t : TypeId} (ht : P.underlying t = some (.int .u8)) (n : Nat) : Opens P n t kU8 := by
  intro H enc w sp held cs x h
  obtain ⟨z, rfl, _, hw⟩ := DataW.trod_int ht h
  have hw' : (IntKind.u8.min ≤ z ∧ z ≤ IntKind.u8.max) := by simpa [Lit.wf, IntKind.has] using hw
  have hw2 : 0 ≤ z ∧ z ≤ 255 := hw'
  refine ⟨UInt8.ofNat z.toNat, ?_⟩
  show [Value.int .u8 z] = [.int .u8 (UInt8.ofNat z.toNat).toNat]
  have : (UInt8.ofNat z.toNat).toNat = z.toNat := by simp; omega
  rw [this, Int.toNat_of_nonneg hw2.1]
theorem opens_bool {P : Program} {t : TypeId} (ht : P.underlying t = some .bool) (n : Nat) : Opens P n t kBool := by
  intro H enc w sp held cs x h
  obtain ⟨b, rfl, _⟩ := DataW.trod_bool ht h
  exact ⟨b, rfl⟩
theorem opens_sl {α : Type} {P : Program} {t e : TypeId} {d : Kd α} {n : Nat} (ht : P.underlying t = some (.slice e)) (hc : P.cellsOf e = d.sz) (hpos : 0 < d.sz) (he : ∀ m, m < n → Opens P m e d) : Opens P n t (kSl d) := by
  intro H enc w sp held cs x h
  rcases DataW.trod_slice ht h with ⟨rfl, _⟩ | ⟨a, len, cap, elems, rest, m, rfl, rfl, _, hb, hl, hm, hlen, hel, _, _⟩
  · exact ⟨[], none, 0, rfl, SL.nil (Nat.zero_le _)⟩
  · have key : ∀ i, i < len → ∃ v : α, ∃ cs, w.cells? 0 (a.add (i * d.sz)) d.sz = some cs ∧ d.K w (Old w) v cs := by
      intro i hi
      have h1 := hel i hi
      rw [hc, List.getElem?_eq_getElem (by omega)] at h1
      obtain ⟨cs', h2, h3⟩ := Option.bind_eq_some_iff.1 h1
      obtain ⟨v, hv⟩ := he m (Nat.lt_succ_self m) h3
      exact ⟨v, cs', h2, hv⟩
    cases hz : len with
    | zero =>
      subst hz
      exact ⟨[], some a, cap, rfl, SL.nil hm⟩
    | succ len' =>
      rw [← hz]
      obtain ⟨v0, _⟩ := key 0 (by omega)
      have : Inhabited α := ⟨v0⟩
      obtain ⟨V, hV⟩ := Deep.choose_lt (α := α) (p := fun i v => ∃ cs, w.cells? 0 (a.add (i * d.sz)) d.sz = some cs ∧ d.K w (Old w) v cs) key
      refine ⟨(List.range len).map V, some a, cap, by simp, by simpa using hl, hm, fun j x hj => ?_⟩
      have hjl : j < len := by have := (List.getElem?_eq_some_iff.1 hj).1; simpa using this
      have hx : V j = x := by simpa [hjl] using hj
      obtain ⟨cs, h1, h2⟩ := hV j hjl
      obtain ⟨_, h3, h4⟩ := World.cells?_some h1
      have hcell : ∀ i u, cs[i]? = some u → w.cell? (a.add (j * d.sz + i)) = some u := fun i u hu => by
        have hi : i < d.sz := by have := (List.getElem?_eq_some_iff.1 hu).1; omega
        have := h4 i hi
        rw [add_add] at this
        rw [this, hu]
      have hlt : a.block < w.heap.size := by
        have h0 : 0 < cs.length := by omega
        have := hcell 0 cs[0] (by simp)
        have := World.block_lt_of_cell? w _ this
        rwa [block_add] at this
      exact ⟨a, cs, rfl, hlt, hlt, by rw [← hx]; exact h2, hcell⟩
/-- A struct's fields: their types and their places. -/
def fieldsOf (P : Program) (t : TypeId) : Option (List (TypeId × Nat)) :=
  match P.underlying t with
  | some (.struct fs) => some (fs.toList.map fun f => (f.type, f.offset))
  | _ => none
theorem open_struct {P : Program} {t : TypeId} {l : List (TypeId × Nat)} (hl : fieldsOf P t = some l) {H : Type} {enc : TypeId × Value → H} {w : World} {sp : Nat → Bool} {held : Bool} {n : Nat} {cs : List Value} {x : DataW H × List MemPlace}
    (h : DataW.trod enc P w 0 sp held n t cs = some x) : ∃ m, n = m + 1 ∧ cs.length = P.cellsOf t ∧ ∀ p ∈ l, ∃ y, DataW.trod enc P w 0 sp held m p.1 ((cs.drop p.2).take (P.cellsOf p.1)) = some y := by
  unfold fieldsOf at hl
  split at hl
  · rename_i fs ht
    injection hl with hl
    subst hl
    obtain ⟨xs, m, rfl, _, hc, hlen, hf⟩ := DataW.trod_struct ht h
    refine ⟨m, rfl, hc, fun p hp => ?_⟩
    obtain ⟨f, hf1, rfl⟩ := List.mem_map.1 hp
    obtain ⟨i, hi, hfi⟩ := List.getElem_of_mem hf1
    have hi' : i < fs.size := by simpa using hi
    have h1 := hf i f (by rw [Array.getElem?_eq_getElem hi']; congr 1)
    rw [List.getElem?_eq_getElem (by omega)] at h1
    exact ⟨_, h1⟩
  · cases hl
theorem open_sl {α : Type} {P : Program} {t e : TypeId} {d : Kd α} (ht : P.underlying t = some (.slice e)) (hc : P.cellsOf e = d.sz) (hpos : 0 < d.sz) (he : ∀ m, Opens P m e d) {H : Type} {enc : TypeId × Value → H} {w : World} {sp : Nat → Bool} {held : Bool} {v : Value} {y : DataW H} {ps : List MemPlace} {r : Reach} {b0 : Nat} (hval : Value.okWide P w r b0 t v) (h : DataW.Trod enc P w 0 sp held t v y ps) :
    ∃ (A : Option Addr) (c : Nat) (xs : List α), v = .slice A xs.length c ∧ SL d w (Old w) A c xs := by
  obtain ⟨a, len, cap, rfl⟩ := WideShapes.okWide_slice ht hval
  obtain ⟨n, hn⟩ := h
  obtain ⟨xs, A, c, e1, hs⟩ := opens_sl ht hc hpos (fun m _ => he m) hn
  simp only [Value.cells, List.cons.injEq, and_true] at e1
  exact ⟨A, c, xs, e1, hs⟩
theorem int_ok {x : Int} (h : (Lit.int .i64 x).wf = true) : I64 x := (by simpa [Lit.wf, IntKind.has] using h : IntKind.i64.min ≤ x ∧ x ≤ IntKind.i64.max)
end Go.Proofs.Ytmcdimcjmafaoaa.B
