/- Kinds of structures; what is read of memory that is there; rows of the call's own that are stored into. No program in sight. -/
import Derived.Test.YtmcdimcjmafaoaaOwn
namespace Go.Proofs.Ytmcdimcjmafaoaa.B
set_option linter.unusedVariables false
set_option linter.unusedSimpArgs false
open Go.RowKit

/-- The blocks that are there. -/
abbrev Old (w : World) : Foot := fun k => k < w.heap.size
theorem Kd.old {α : Type} {d : Kd α} {w w' : World} {x : α} {cs : List Value} (h : d.K w (Old w) x cs) (hb : Below w.heap.size w w') : d.K w' (Old w') x cs :=
  d.mono (fun _ hk _ => Nat.lt_of_lt_of_le hk hb.size) (Kd.below h hb)
theorem Kd.any {α : Type} {d : Kd α} {w : World} {F : Foot} {x : α} {cs : List Value} (h : d.K w F x cs) : d.K w (Old w) x cs := d.mono (fun _ _ hk => hk) h
theorem SL.any {α : Type} {d : Kd α} {w : World} {F : Foot} {A : Option Addr} {c : Nat} {xs : List α} (h : SL d w F A c xs) : SL d w (Old w) A c xs := h.mono (fun _ _ hk => hk)
theorem SL.old {α : Type} {d : Kd α} {w w' : World} {A : Option Addr} {c : Nat} {xs : List α} (h : SL d w (Old w) A c xs) (hb : Below w.heap.size w w') : SL d w' (Old w') A c xs := (h.below hb).any
/-- Two kinds one behind the other. -/
def kProd {α β : Type} (a : Kd α) (b : Kd β) : Kd (α × β) where
  sz := a.sz + b.sz
  K := fun w F x cs => ∃ c1 c2, cs = c1 ++ c2 ∧ a.K w F x.1 c1 ∧ b.K w F x.2 c2
  len := by rintro w F x cs ⟨c1, c2, rfl, h1, h2⟩; rw [List.length_append, a.len h1, b.len h2]
  one := by
    rintro w F x cs ⟨c1, c2, rfl, h1, h2⟩ u hu
    rcases List.mem_append.1 hu with hu | hu
    · exact a.one h1 u hu
    · exact b.one h2 u hu
  mono := by rintro w F F' x cs hf ⟨c1, c2, rfl, h1, h2⟩; exact ⟨c1, c2, rfl, a.mono hf h1, b.mono hf h2⟩
  move := by rintro w w' F x cs hm hs ⟨c1, c2, rfl, h1, h2⟩; exact ⟨c1, c2, rfl, a.move hm hs h1, b.move hm hs h2⟩
/-- A kind under another name. -/
def kMap {α β : Type} (f : β → α) (a : Kd α) : Kd β where
  sz := a.sz
  K := fun w F x cs => a.K w F (f x) cs
  len := fun h => a.len h
  one := fun h => a.one h
  mono := fun hf h => a.mono hf h
  move := fun hm hs h => a.move hm hs h
def kStr : Kd ByteArray where
  sz := 1
  K := fun _ _ s cs => cs = [.string s] ∧ s.size ≤ maxLen
  len := fun h => by rw [h.1]; rfl
  one := fun h u hu => by rw [h.1] at hu; rw [List.mem_singleton.1 hu]; rfl
  mono := fun _ h => h
  move := fun _ _ h => h

/-- A block, whole. -/
def Blk (w : World) (g : Nat) (t : TypeId) (cs : List Value) : Prop := w.heap[g]? = some (.cells cs.toArray t (0, 0))
section
variable {w w' : World} {g : Nat} {t : TypeId} {cs : List Value}
theorem Blk.new (w : World) (t : TypeId) (cs : List Value) : Blk (w.alloc (.cells cs.toArray t)) w.heap.size t cs := by show (w.heap.push _)[w.heap.size]? = _; rw [Array.getElem?_push_size]
theorem Blk.lt (h : Blk w g t cs) : g < w.heap.size := (Array.getElem?_eq_some_iff.1 h).1
theorem Blk.below (h : Blk w g t cs) (hb : Below w.heap.size w w') : Blk w' g t cs := (hb.block g h.lt).trans h
theorem Blk.grown {row : Option Nat} (h : Blk w g t cs) (hg : w.grownBy w' row) (hne : row ≠ some g) : Blk w' g t cs := (hg.block g h.lt (fun e => hne e.symm)).trans h
theorem Blk.cell (h : Blk w g t cs) {i : Nat} {u : Value} (hu : cs[i]? = some u) : w.cell? ⟨g, i, none⟩ = some u := by
  unfold Blk at h
  simp [World.cell?, h, hu]
theorem Blk.frozen (h : Blk w g t cs) (i : Nat) : w.frozen? ⟨g, i, none⟩ = false := by
  unfold Blk at h
  simp [World.frozen?, h]
theorem Blk.set (h : Blk w g t cs) (i : Nat) (u : Value) : Blk (w.setCell ⟨g, i, none⟩ u) g t (cs.set i u) := by
  unfold Blk at h ⊢
  simp [World.setCell, Array.getElem?_modify, h]
theorem Blk.other (h : Blk w g t cs) {v i : Nat} {u : Value} (hne : g ≠ v) : Blk (w.setCell ⟨v, i, none⟩ u) g t cs := (Below.heap_setCell _ _ _ _ hne).trans h
theorem Blk.facts4 {a b c d : Value} (h : Blk w g t [a, b, c, d]) : (w.cell? ⟨g, 0, none⟩ = some (a) ∧ w.cell? ⟨g, 1, none⟩ = some (b) ∧ w.cell? ⟨g, 2, none⟩ = some (c) ∧ w.cell? ⟨g, 3, none⟩ = some (d)) ∧ w.frozen? ⟨g, 0, none⟩ = false ∧ w.frozen? ⟨g, 1, none⟩ = false ∧ w.frozen? ⟨g, 2, none⟩ = false ∧ w.frozen? ⟨g, 3, none⟩ = false :=
  ⟨⟨h.cell rfl, h.cell rfl, h.cell rfl, h.cell rfl⟩, h.frozen 0, h.frozen 1, h.frozen 2, h.frozen 3⟩
theorem Blk.facts2 {a b : Value} (h : Blk w g t [a, b]) : (w.cell? ⟨g, 0, none⟩ = some a ∧ w.cell? ⟨g, 1, none⟩ = some b) ∧ w.frozen? ⟨g, 0, none⟩ = false ∧ w.frozen? ⟨g, 1, none⟩ = false := ⟨⟨h.cell rfl, h.cell rfl⟩, h.frozen 0, h.frozen 1⟩
theorem Blk.facts1 {a : Value} (h : Blk w g t [a]) : w.cell? ⟨g, 0, none⟩ = some a ∧ w.frozen? ⟨g, 0, none⟩ = false := ⟨h.cell rfl, h.frozen 0⟩
theorem Blk.facts3 {a b c : Value} (h : Blk w g t [a, b, c]) : (w.cell? ⟨g, 0, none⟩ = some a ∧ w.cell? ⟨g, 1, none⟩ = some b ∧ w.cell? ⟨g, 2, none⟩ = some c) ∧ w.frozen? ⟨g, 0, none⟩ = false ∧ w.frozen? ⟨g, 1, none⟩ = false ∧ w.frozen? ⟨g, 2, none⟩ = false :=
  ⟨⟨h.cell rfl, h.cell rfl, h.cell rfl⟩, h.frozen 0, h.frozen 1, h.frozen 2⟩
end

/-- A slice of slices: an element, as the walk reads it. -/
theorem SL.sl_at {α : Type} {d : Kd α} {w : World} {F : Foot} {A : Option Addr} {c : Nat} {xs : List (List α)} (h : SL (kSl d) w F A c xs) {i : Nat} (hi : i < xs.length) :
    ∃ ad A' c', A = some ad ∧ w.cell? (ad.add i) = some (.slice A' xs[i].length c') ∧ SL d w F A' c' xs[i] := by
  obtain ⟨ad, cs, hA, _, _, ⟨A', c', rfl, hK⟩, hc⟩ := h.row.at_ hi
  refine ⟨ad, A', c', hA, ?_, hK⟩
  have := hc 0 _ rfl
  simpa [kSl] using this

/-! ### a row of the call's own, stored into (elements of one cell) -/
/-- The row's block, whole. -/
theorem Own.block1 {α : Type} {d : Kd α} {e : TypeId} {w : World} {B : Nat} {F : Foot} {v : Value} {xs : List α} (h : Own d e w B F v xs) (hsz : d.sz = 1) (hne : xs ≠ []) :
    ∃ g cap cur, v = .slice (some ⟨g, 0, none⟩) xs.length cap ∧ B ≤ g ∧ ¬ F g ∧ w.heap[g]? = some (.cells cur e (0, 0)) ∧ xs.length ≤ cap ∧ cap ≤ maxLen ∧ cur.size = cap ∧ CellsOf d w F xs (cur.toList.take xs.length) := by
  obtain ⟨cells, ⟨h1, h2⟩, hc, hn⟩ := h
  rcases h2 with ⟨rfl, h0⟩ | ⟨g, cap, cur, rfl, hg, hh, hle, hm, hcs, ht⟩
  · exact absurd (List.eq_nil_of_length_eq_zero h0) hne
  · rw [hsz, Nat.mul_one] at hcs ht
    refine ⟨g, cap, cur, rfl, hg, hn g rfl, hh, hle, hm, hcs, by rw [ht]; exact hc⟩
theorem Own.of_block1 {α : Type} {d : Kd α} {e : TypeId} {w : World} {B : Nat} {F : Foot} {xs : List α} {g cap : Nat} {cur : Array Value} (hsz : d.sz = 1) (hg : B ≤ g) (hF : ¬ F g) (hh : w.heap[g]? = some (.cells cur e (0, 0)))
    (hle : xs.length ≤ cap) (hm : cap ≤ maxLen) (hcs : cur.size = cap) (hc : CellsOf d w F xs (cur.toList.take xs.length)) : Own d e w B F (.slice (some ⟨g, 0, none⟩) xs.length cap) xs := by
  refine ⟨cur.toList.take xs.length, ⟨by rw [hc.1], .inr ⟨g, cap, cur, rfl, hg, hh, hle, hm, by rw [hsz, Nat.mul_one]; exact hcs, by rw [hsz, Nat.mul_one]⟩⟩, hc, fun k hk => ?_⟩
  have : g = k := by simpa [Value.ownBlock] using hk
  subst this
  exact hF
theorem CellsOf.set1 {α : Type} {d : Kd α} {w : World} {F : Foot} {xs : List α} {cells : List Value} (h : CellsOf d w F xs cells) (hsz : d.sz = 1) {j : Nat} {y : α} {c : Value} (hK : d.K w F y [c]) : CellsOf d w F (xs.set j y) (cells.set j c) := by
  refine ⟨by rw [List.length_set, List.length_set]; exact h.1, fun i x hx => ?_⟩
  have hcl := h.1
  rw [hsz, Nat.mul_one] at hcl
  rw [List.getElem?_set] at hx
  split at hx
  · rename_i hji
    subst hji
    split at hx
    · rename_i hlt
      injection hx with hx
      subst hx
      rw [hsz, Nat.mul_one, List.drop_eq_getElem_cons (by rw [List.length_set]; omega), List.take_succ_cons, List.take_zero, List.getElem_set_self]
      exact hK
    · cases hx
  · rename_i hji
    have hh := h.2 i x hx
    have hil := (List.getElem?_eq_some_iff.1 hx).1
    rw [hsz, Nat.mul_one, List.drop_eq_getElem_cons (by omega), List.take_succ_cons, List.take_zero] at hh
    rw [hsz, Nat.mul_one, List.drop_eq_getElem_cons (by rw [List.length_set]; omega), List.take_succ_cons, List.take_zero, List.getElem_set_ne hji]
    exact hh
/-- xs[j] = y. -/
theorem Own.set1 {α : Type} {d : Kd α} {e : TypeId} {w : World} {B : Nat} {F : Foot} {v : Value} {xs : List α} (h : Own d e w B F v xs) (hsz : d.sz = 1) {j : Nat} (hj : j < xs.length) {y : α} {c : Value} (hK : d.K w F y [c]) :
    ∃ g cap, v = .slice (some ⟨g, 0, none⟩) xs.length cap ∧ B ≤ g ∧ g < w.heap.size ∧ (∃ u, w.cell? ⟨g, j, none⟩ = some u) ∧ w.frozen? ⟨g, j, none⟩ = false ∧ Own d e (w.setCell ⟨g, j, none⟩ c) B F v (xs.set j y) := by
  obtain ⟨g, cap, cur, rfl, hg, hF, hh, hle, hm, hcs, hc⟩ := h.block1 hsz (fun e => by rw [e] at hj; cases hj)
  have hgl : g < w.heap.size := (Array.getElem?_eq_some_iff.1 hh).1
  have hjc : j < cur.size := by omega
  refine ⟨g, cap, rfl, hg, hgl, ⟨cur[j], by simp [World.cell?, hh, hjc]⟩, by simp [World.frozen?, hh], ?_⟩
  have h2 : (w.setCell ⟨g, j, none⟩ c).heap[g]? = some (.cells (cur.setIfInBounds j c) e (0, 0)) := by simp [World.setCell, Array.getElem?_modify, hh]
  have h3 : CellsOf d (w.setCell ⟨g, j, none⟩ c) F (xs.set j y) ((cur.setIfInBounds j c).toList.take (xs.set j y).length) := by
    have h4 := (hc.set1 hsz (j := j) hK).move (w' := w.setCell ⟨g, j, none⟩ c) (fun k hk _ => Below.heap_setCell _ _ _ _ (fun e => hF (by subst e; exact hk))) (by simp [World.setCell])
    rw [List.length_set, Array.toList_setIfInBounds, List.take_set]
    exact h4
  have := Own.of_block1 (e := e) (B := B) (w := w.setCell ⟨g, j, none⟩ c) hsz hg hF h2 (by rw [List.length_set]; exact hle) hm (by rw [Array.size_setIfInBounds]; exact hcs) h3
  rwa [List.length_set] at this
end Go.Proofs.Ytmcdimcjmafaoaa.B
