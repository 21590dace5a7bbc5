/- Rows of the call's own, whose elements are told by a kind; append onto them. -/
import Derived.Test.YtmcdimcjmafaoaaBase
import Derived.Maps.AppendAt
import Derived.Deep.AppendLies
import Derived.RegionTactic
namespace Go.Proofs.Ytmcdimcjmafaoaa.B
set_option linter.unusedSimpArgs false
set_option linter.unusedVariables false
open Go.RowKit

/-- What the cells of a row say of its elements. -/
def CellsOf {α : Type} (d : Kd α) (w : World) (F : Foot) (xs : List α) (cells : List Value) : Prop :=
  cells.length = xs.length * d.sz ∧ ∀ j x, xs[j]? = some x → d.K w F x ((cells.drop (j * d.sz)).take d.sz)
/-- A row of the call's own (blocks from B on): v its slice value, xs its elements; F: the blocks that the elements lead to, never the row's own. -/
def Own {α : Type} (d : Kd α) (e : TypeId) (w : World) (B : Nat) (F : Foot) (v : Value) (xs : List α) : Prop :=
  ∃ cells, w.ownsRow B e d.sz v xs.length cells ∧ CellsOf d w F xs cells ∧ ∀ k, v.ownBlock = some k → ¬ F k
/-- A row's new place: its old one, or a block that is new to w. -/
def At (w : World) (v v' : Value) : Prop := v'.ownBlock = v.ownBlock ∨ ∀ k, v'.ownBlock = some k → w.heap.size ≤ k

section
variable {α : Type} {d : Kd α} {e : TypeId} {w w' : World} {B B' : Nat} {F F' : Foot} {v v' : Value} {xs ys : List α} {cells news : List Value}
theorem CellsOf.nil : CellsOf d w F ([] : List α) [] := ⟨by simp, fun j x h => by simp at h⟩
theorem CellsOf.move (hm : ∀ k, F k → k < w.heap.size → w'.heap[k]? = w.heap[k]?) (hs : w.heap.size ≤ w'.heap.size) (h : CellsOf d w F xs cells) : CellsOf d w' F xs cells := ⟨h.1, fun j x hj => d.move hm hs (h.2 j x hj)⟩
theorem CellsOf.mono (hf : ∀ k, F k → k < w.heap.size → F' k) (h : CellsOf d w F xs cells) : CellsOf d w F' xs cells := ⟨h.1, fun j x hj => d.mono hf (h.2 j x hj)⟩
theorem CellsOf.app (h : CellsOf d w F xs cells) (h' : CellsOf d w F ys news) : CellsOf d w F (xs ++ ys) (cells ++ news) := by
  refine ⟨by rw [List.length_append, h.1, h'.1, List.length_append, Nat.add_mul], fun j x hj => ?_⟩
  rcases Nat.lt_or_ge j xs.length with hlt | hge
  · rw [List.getElem?_append_left hlt] at hj
    have h1 : j * d.sz + d.sz ≤ cells.length := by rw [h.1, ← Nat.succ_mul]; exact Nat.mul_le_mul_right _ hlt
    rw [List.drop_append_of_le_length (by omega), List.take_append_of_le_length (by rw [List.length_drop]; omega)]
    exact h.2 j x hj
  · rw [List.getElem?_append_right hge] at hj
    have h2 := h'.2 _ x hj
    have e1 : j * d.sz = cells.length + (j - xs.length) * d.sz := by rw [h.1, ← Nat.add_mul]; congr 1; omega
    rw [e1, List.drop_length_add_append]
    exact h2
theorem CellsOf.one (x : α) (cs : List Value) (h : d.K w F x cs) : CellsOf d w F [x] cs := by
  refine ⟨by rw [d.len h]; simp, fun j y hj => ?_⟩
  cases j with
  | zero =>
    simp at hj
    subst hj
    rw [Nat.zero_mul, List.drop_zero, ← d.len h, List.take_length]
    exact h
  | succ j => simp at hj
theorem CellsOf.of_row {A : Option Addr} (h : Row d w F A xs) (hne : xs ≠ []) : ∃ ad cells, A = some ad ∧ CellsOf d w F xs cells ∧ (∀ u ∈ cells, u.oneCell' = true) ∧ ∀ i u, cells[i]? = some u → w.cell? (ad.add i) = some u := by
  have h0 : 0 < xs.length := by cases xs with | nil => exact absurd rfl hne | cons => simp
  obtain ⟨ad, _, hA, _⟩ := h.at_ h0
  have key : ∀ n, n ≤ xs.length → ∃ cells, CellsOf d w F (xs.take n) cells ∧ (∀ u ∈ cells, u.oneCell' = true) ∧ ∀ i u, cells[i]? = some u → w.cell? (ad.add i) = some u := by
    intro n
    induction n with
    | zero => exact fun _ => ⟨[], by simpa using CellsOf.nil, by simp, by simp⟩
    | succ n ih =>
      intro hn
      obtain ⟨cells, hc, h1, hcell⟩ := ih (by omega)
      obtain ⟨ad', cs, hA', _, _, hK, hcs⟩ := h.at_ (i := n) (by omega)
      rw [hA] at hA'
      injection hA' with hA'
      subst hA'
      refine ⟨cells ++ cs, ?_, ?_, ?_⟩
      · rw [List.take_succ_eq_append_getElem (by omega)]
        exact hc.app (CellsOf.one _ _ hK)
      · intro u hu
        rcases List.mem_append.1 hu with hu | hu
        · exact h1 u hu
        · exact d.one hK u hu
      · intro i u hu
        have hl : cells.length = n * d.sz := by rw [hc.1, List.length_take, Nat.min_eq_left (by omega)]
        rcases Nat.lt_or_ge i cells.length with hlt | hge
        · rw [List.getElem?_append_left hlt] at hu
          exact hcell i u hu
        · rw [List.getElem?_append_right hge] at hu
          have := hcs _ u hu
          rwa [show n * d.sz + (i - cells.length) = i by omega] at this
  obtain ⟨cells, hc, h1, hcell⟩ := key xs.length (Nat.le_refl _)
  rw [List.take_length] at hc
  exact ⟨ad, cells, hA, hc, h1, hcell⟩

theorem Own.nil : Own d e w B F (.slice none 0 0) ([] : List α) := ⟨[], World.ownsRow_nil _ _ _ _, CellsOf.nil, fun k hk => by simp [Value.ownBlock] at hk⟩
theorem Own.lt (h : Own d e w B F v xs) : ∀ k, v.ownBlock = some k → B ≤ k ∧ k < w.heap.size := by
  obtain ⟨cells, ho, _⟩ := h
  exact ho.lt
theorem Own.not (h : Own d e w B F v xs) : ∀ k, v.ownBlock = some k → ¬ F k := by
  obtain ⟨_, _, _, h⟩ := h
  exact h
/-- The row's own block, and what its elements lead to, are as they were. -/
theorem Own.step (h : Own d e w B F v xs) (hs : w.heap.size ≤ w'.heap.size) (hm : ∀ k, (F k ∨ v.ownBlock = some k) → k < w.heap.size → w'.heap[k]? = w.heap[k]?) : Own d e w' B F v xs := by
  obtain ⟨cells, ho, hc, hn⟩ := h
  refine ⟨cells, ?_, hc.move (fun k hk hl => hm k (.inl hk) hl) hs, hn⟩
  obtain ⟨h1, h2⟩ := ho
  refine ⟨h1, ?_⟩
  rcases h2 with h2 | ⟨g, cap, cur, rfl, hg, hh, r⟩
  · exact .inl h2
  · have hl : g < w.heap.size := by
      rcases Nat.lt_or_ge g w.heap.size with h | h
      · exact h
      · rw [Array.getElem?_eq_none h] at hh; cases hh
    exact .inr ⟨g, cap, cur, rfl, hg, (hm g (.inr rfl) hl).trans hh, r⟩
theorem Own.below (h : Own d e w B F v xs) (hb : Below w.heap.size w w') : Own d e w' B F v xs := h.step hb.size (fun k _ hk => hb.block k hk)
theorem Own.mono (h : Own d e w B F v xs) (hf : ∀ k, F k → k < w.heap.size → F' k) (hn : ∀ k, v.ownBlock = some k → ¬ F' k) : Own d e w B F' v xs := by
  obtain ⟨cells, ho, hc, _⟩ := h
  exact ⟨cells, ho, hc.mono hf, hn⟩
theorem Own.lower (h : Own d e w B F v xs) (hB : B' ≤ B) : Own d e w B' F v xs := by
  obtain ⟨cells, ho, hc, hn⟩ := h
  obtain ⟨h1, h2⟩ := ho
  refine ⟨cells, ⟨h1, ?_⟩, hc, hn⟩
  rcases h2 with h2 | ⟨g, cap, cur, rfl, hg, r⟩
  · exact .inl h2
  · exact .inr ⟨g, cap, cur, rfl, by omega, r⟩
/-- The same row, told from a later base. -/
theorem Own.raise (h : Own d e w B F v xs) (hB : ∀ k, v.ownBlock = some k → B' ≤ k) : Own d e w B' F v xs := by
  obtain ⟨cells, ho, hc, hn⟩ := h
  obtain ⟨h1, h2⟩ := ho
  refine ⟨cells, ⟨h1, ?_⟩, hc, hn⟩
  rcases h2 with h2 | ⟨g, cap, cur, rfl, hg, r⟩
  · exact .inl h2
  · exact .inr ⟨g, cap, cur, rfl, hB g rfl, r⟩
theorem Own.form (h : Own d e w B F v xs) : ∃ A c, v = .slice A xs.length c ∧ xs.length ≤ c ∧ c ≤ maxLen := by
  obtain ⟨cells, ho, _⟩ := h
  rcases ho.2 with ⟨rfl, h0⟩ | ⟨g, cap, cur, rfl, _, _, hle, hm, _⟩
  · exact ⟨none, 0, by rw [h0], by omega, Nat.zero_le _⟩
  · exact ⟨_, _, rfl, hle, hm⟩
/-- As a slice that is read. -/
theorem Own.sl (h : Own d e w B F v xs) (hF : ∀ k, F k → k < w.heap.size → F' k) (hF' : ∀ k, v.ownBlock = some k → F' k) : ∃ A c, v = .slice A xs.length c ∧ SL d w F' A c xs := by
  obtain ⟨cells, ho, hc, _⟩ := h
  rcases ho.2 with ⟨rfl, h0⟩ | ⟨g, cap, cur, rfl, hbg, hh, hle, hm, hcs, htake⟩
  · have : xs = [] := List.eq_nil_of_length_eq_zero h0
    subst this
    exact ⟨none, 0, rfl, SL.nil (Nat.zero_le _)⟩
  · refine ⟨_, _, rfl, hle, hm, fun j x hj => ?_⟩
    have hl : g < w.heap.size := by
      rcases Nat.lt_or_ge g w.heap.size with h | h
      · exact h
      · rw [Array.getElem?_eq_none h] at hh; cases hh
    have hjl := (List.getElem?_eq_some_iff.1 hj).1
    refine ⟨_, _, rfl, hF' g rfl, hl, d.mono hF (hc.2 j x hj), fun i u hu => ?_⟩
    rw [List.getElem?_take] at hu
    split at hu
    · rw [List.getElem?_drop] at hu
      exact ho.cells (g := g) rfl _ u hu
    · cases hu
theorem Own.sl_all (h : Own d e w B F v xs) : ∃ A c, v = .slice A xs.length c ∧ SL d w (fun k => F k ∨ v.ownBlock = some k) A c xs := h.sl (fun k hk _ => .inl hk) (fun k hk => .inr hk)
end

/-! ### append onto such a row -/
section
variable {P : Program} {α : Type} {d : Kd α} {e : TypeId} {w : World} {B : Nat} {F : Foot} {v : Value} {xs ys : List α}
/-- The facts on the element type that append asks. -/
structure Elem (P : Program) (t e : TypeId) (size bytes : Nat) : Prop where
  ht : P.underlying t = some (.slice e)
  hi : ∃ i z, P.info? e = some i ∧ i.zero = some z ∧ i.size = size ∧ i.bytes = bytes ∧ z.cells.size = size
  pos : 0 < size

theorem run_app {t ty : TypeId} {bytes : Nat} (E : Elem P t e d.sz bytes) (h : Own d e w B F v xs) (A : Option Addr) (m c : Nat) (news : List Value) (hm : ys.length = m) (hc : CellsOf d w F ys news)
    (hne : 0 < m → ∃ ad, A = some ad ∧ ∀ i u, news[i]? = some u → w.cell? (ad.add i) = some u) (h1 : ∀ u ∈ news, u.oneCell' = true) (hF : ∀ k, F k → k < w.heap.size)
    (h63 : xs.length + m ≤ maxLen) (hby : (xs.length + m) * bytes ≤ 140737488355328) (hB : B ≤ w.heap.size) :
    ∃ v' w', (Builtin.append_ #[t, t] ty #[v, .slice A m c]).run P w = .ok v' w' ∧ Own d e w' B F v' (xs ++ ys) ∧ w.grownBy w' v.ownBlock ∧ (v'.ownBlock = v.ownBlock ∨ v'.ownBlock = some w.heap.size) := by
  obtain ⟨i, z, hi, hz, hsz, hbytes, hzs⟩ := E.hi
  obtain ⟨cells, ho, hcs, hn⟩ := h
  rcases Nat.eq_zero_or_pos m with h0 | hpos
  · have hy : ys = [] := List.eq_nil_of_length_eq_zero (by omega)
    subst hy
    subst h0
    have hnews : news = [] := List.eq_nil_of_length_eq_zero (by rw [hc.1]; simp)
    subst hnews
    refine ⟨v, w, ?_, by rw [List.append_nil]; exact ⟨cells, ho, hcs, hn⟩, World.grownBy.refl w _, .inl rfl⟩
    rcases ho.2 with ⟨rfl, hl⟩ | ⟨g, cap, cur, rfl, _, _, hnc, _⟩
    · cases A <;> simp [Builtin.append_, run_underlying E.ht, sizeOf, typeInfo, hi, Builtin.lenOf, Builtin.firstCells, loadCells, loadCellsFrom]
    · cases A <;> simp [Builtin.append_, run_underlying E.ht, sizeOf, typeInfo, hi, Builtin.lenOf, Builtin.firstCells, loadCells, loadCellsFrom, hnc, storeCells]
  · obtain ⟨ad, rfl, hcell⟩ := hne hpos
    obtain ⟨v', w', hrun, h2, h3, _, h5⟩ := run_append_own_at (P := P) w B t ty e i z d.sz bytes E.ht hi hz hsz hbytes hzs E.pos v _ cells ho ad m c news (by rw [hc.1, hm]) hcell h1 h63 hby hB
    refine ⟨v', w', hrun, ⟨cells ++ news, by rw [List.length_append, hm]; exact h2, (hcs.app hc).move (fun k hk hl => ?_) h3.size, fun k hk => ?_⟩, h3, h5⟩
    · exact h3.block k hl (fun e => hn k e.symm hk)
    · rcases h5 with h5 | h5
      · exact hn k (by rw [← h5]; exact hk)
      · rw [h5] at hk
        injection hk with hk
        subst hk
        exact fun hf => absurd (hF _ hf) (Nat.lt_irrefl _)

theorem wp_app {o : Oper} {a : Act} {K : Act → World → Prop} {Q : Exit → Act → World → Prop} (s x : Operand) (t : TypeId) {bytes : Nat}
    (ho : o.op = .call { callee := .builtin .append, args := #[s, x], argTypes := #[t, t] }) (E : Elem P t e d.sz bytes) (h : Own d e w B F v xs) (hs : a.eval s = v)
    (A : Option Addr) (m c : Nat) (news : List Value) (hx : a.eval x = .slice A m c) (hm : ys.length = m) (hc : CellsOf d w F ys news)
    (hne : 0 < m → ∃ ad, A = some ad ∧ ∀ i u, news[i]? = some u → w.cell? (ad.add i) = some u) (h1 : ∀ u ∈ news, u.oneCell' = true) (hF : ∀ k, F k → k < w.heap.size)
    (h63 : xs.length + m ≤ maxLen) (hby : (xs.length + m) * bytes ≤ 140737488355328) (hB : B ≤ w.heap.size)
    (hk : ∀ v' w', Own d e w' B F v' (xs ++ ys) → w.grownBy w' v.ownBlock → (v'.ownBlock = v.ownBlock ∨ v'.ownBlock = some w.heap.size) → K (a.put o.dst v') w') : o.wp P a w K Q := by
  obtain ⟨v', w', hrun, h2, h3, h4⟩ := run_app (P := P) (ty := o.type) E h A m c news hm hc hne h1 hF h63 hby hB
  unfold Oper.wp execOp
  simp only [ho, resolve, invoke, builtin, Sem.run_bind, Sem.run_pure, Result.andThen_ok, List.map_toArray, List.map_cons, List.map_nil, hs, hx, hrun]
  exact hk v' w' h2 h3 h4
end
section
variable {P : Program} {α : Type} {d : Kd α} {e : TypeId} {w : World} {B : Nat} {F : Foot} {v : Value} {xs ys : List α} {ops : Array Oper} {rest : List Oper} {o : Oper} {a : Act} {K : Act → World → Prop} {Q : Exit → Act → World → Prop} {G : Prop}
/-- One element, out of a block of its own. -/
theorem wp_app1 (s x : Operand) (t : TypeId) {bytes : Nat}
    (ho : o.op = .call { callee := .builtin .append, args := #[s, x], argTypes := #[t, t] }) (E : Elem P t e d.sz bytes) (y : α) (cs : List Value) (h : Own d e w B F v xs) (hs : a.eval s = v)
    (ad : Addr) (c : Nat) (hx : a.eval x = .slice (some ad) 1 c) (hc : d.K w F y cs) (hcell : ∀ i u, cs[i]? = some u → w.cell? (ad.add i) = some u) (hF : ∀ k, F k → k < w.heap.size)
    (hby : (xs.length + 1) * bytes ≤ 140737488355328) (hbp : 0 < bytes) (hB : B ≤ w.heap.size)
    (hk : ∀ v' w', Own d e w' B F v' (xs ++ [y]) → w.grownBy w' v.ownBlock → At w v v' → K (a.put o.dst v') w') : o.wp P a w K Q :=
  wp_app s x t ho E h hs (some ad) 1 c cs hx rfl (CellsOf.one y cs hc) (fun _ => ⟨ad, rfl, hcell⟩) (d.one hc) hF
    (by have : xs.length + 1 ≤ (xs.length + 1) * bytes := Nat.le_mul_of_pos_right _ hbp
        simp only [maxLen]; omega) hby hB (fun v' w' h1 h2 h3 => hk v' w' h1 h2 (by
          rcases h3 with h3 | h3
          · exact .inl h3
          · exact .inr (fun k hk => by rw [h3] at hk; injection hk with hk; omega)))
/-- All elements of a slice that is read. -/
theorem wp_apps (s x : Operand) (t : TypeId) {bytes : Nat} {F' : Foot}
    (ho : o.op = .call { callee := .builtin .append, args := #[s, x], argTypes := #[t, t] }) (E : Elem P t e d.sz bytes) (h : Own d e w B F v xs) (hs : a.eval s = v)
    (A : Option Addr) (c : Nat) (hx : a.eval x = .slice A ys.length c) (hr : Row d w F' A ys) (hFF : ∀ x cs, x ∈ ys → d.K w F' x cs → d.K w F x cs) (hF : ∀ k, F k → k < w.heap.size)
    (hby : (xs.length + ys.length) * bytes ≤ 140737488355328) (hbp : 0 < bytes) (hB : B ≤ w.heap.size)
    (hk : ∀ v' w', Own d e w' B F v' (xs ++ ys) → w.grownBy w' v.ownBlock → At w v v' → K (a.put o.dst v') w') : o.wp P a w K Q := by
  have hlen : xs.length + ys.length ≤ maxLen := by
    have : xs.length + ys.length ≤ (xs.length + ys.length) * bytes := Nat.le_mul_of_pos_right _ hbp
    simp only [maxLen]; omega
  have hk' : ∀ v' w', Own d e w' B F v' (xs ++ ys) → w.grownBy w' v.ownBlock → (v'.ownBlock = v.ownBlock ∨ v'.ownBlock = some w.heap.size) → K (a.put o.dst v') w' := fun v' w' h1 h2 h3 => hk v' w' h1 h2 (by
    rcases h3 with h3 | h3
    · exact .inl h3
    · exact .inr (fun k hk => by rw [h3] at hk; injection hk with hk; omega))
  by_cases hne : ys = []
  · subst hne
    exact wp_app s x t ho E h hs A 0 c [] hx rfl CellsOf.nil (fun h => absurd h (by omega)) (by simp) hF hlen hby hB hk'
  · obtain ⟨ad, cells, hA, hc, h1, hcell⟩ := CellsOf.of_row hr hne
    have hc' : CellsOf d w F ys cells := ⟨hc.1, fun j y hj => hFF y _ (List.mem_of_getElem? hj) (hc.2 j y hj)⟩
    exact wp_app s x t ho E h hs A ys.length c cells hx rfl hc' (fun _ => ⟨ad, hA, hcell⟩) h1 hF hlen hby hB hk'
theorem wpList_app1 (hgd : o.guard = none) (s x : Operand) (t : TypeId) {bytes : Nat}
    (ho : o.op = .call { callee := .builtin .append, args := #[s, x], argTypes := #[t, t] }) (E : Elem P t e d.sz bytes) (y : α) (cs : List Value) (h : Own d e w B F v xs) (hs : a.eval s = v)
    (ad : Addr) (c : Nat) (hx : a.eval x = .slice (some ad) 1 c) (hc : d.K w F y cs) (hcell : ∀ i u, cs[i]? = some u → w.cell? (ad.add i) = some u) (hF : ∀ k, F k → k < w.heap.size)
    (hby : (xs.length + 1) * bytes ≤ 140737488355328) (hbp : 0 < bytes) (hB : B ≤ w.heap.size)
    (hk : ∀ v' w', Own d e w' B F v' (xs ++ [y]) → w.grownBy w' v.ownBlock → At w v v' → wpList P ops Q rest (a.put o.dst v') w') : wpList P ops Q (o :: rest) a w :=
  wpList_plain hgd fun _ hK => wp_app1 s x t ho E y cs h hs ad c hx hc hcell hF hby hbp hB (fun v' w' h1 h2 h3 => hK _ _ (hk v' w' h1 h2 h3))
theorem step_app1 (hgd : o.guard = none) (s x : Operand) (t : TypeId) {bytes : Nat}
    (ho : o.op = .call { callee := .builtin .append, args := #[s, x], argTypes := #[t, t] }) (E : Elem P t e d.sz bytes) (y : α) (cs : List Value) (h : Own d e w B F v xs) (hs : a.eval s = v)
    (ad : Addr) (c : Nat) (hx : a.eval x = .slice (some ad) 1 c) (hc : d.K w F y cs) (hcell : ∀ i u, cs[i]? = some u → w.cell? (ad.add i) = some u) (hF : ∀ k, F k → k < w.heap.size)
    (hby : (xs.length + 1) * bytes ≤ 140737488355328) (hbp : 0 < bytes) (hB : B ≤ w.heap.size)
    (hk : ∀ v' w', Own d e w' B F v' (xs ++ [y]) → w.grownBy w' v.ownBlock → At w v v' → K (a.put o.dst v') w') :
    if Region.wanted o (yielded ops a.tmps) = true then Oper.wp P o a w K Q else G := by
  have hw : Region.wanted o (yielded ops a.tmps) = true := by simp [Region.wanted, hgd]
  rw [if_pos hw]
  exact wp_app1 s x t ho E y cs h hs ad c hx hc hcell hF hby hbp hB hk
theorem wpList_apps (hgd : o.guard = none) (s x : Operand) (t : TypeId) {bytes : Nat} {F' : Foot}
    (ho : o.op = .call { callee := .builtin .append, args := #[s, x], argTypes := #[t, t] }) (E : Elem P t e d.sz bytes) (h : Own d e w B F v xs) (hs : a.eval s = v)
    (A : Option Addr) (c : Nat) (hx : a.eval x = .slice A ys.length c) (hr : Row d w F' A ys) (hFF : ∀ x cs, x ∈ ys → d.K w F' x cs → d.K w F x cs) (hF : ∀ k, F k → k < w.heap.size)
    (hby : (xs.length + ys.length) * bytes ≤ 140737488355328) (hbp : 0 < bytes) (hB : B ≤ w.heap.size)
    (hk : ∀ v' w', Own d e w' B F v' (xs ++ ys) → w.grownBy w' v.ownBlock → At w v v' → wpList P ops Q rest (a.put o.dst v') w') : wpList P ops Q (o :: rest) a w :=
  wpList_plain hgd fun _ hK => wp_apps s x t ho E h hs A c hx hr hFF hF hby hbp hB (fun v' w' h1 h2 h3 => hK _ _ (hk v' w' h1 h2 h3))
theorem step_apps (hgd : o.guard = none) (s x : Operand) (t : TypeId) {bytes : Nat} {F' : Foot}
    (ho : o.op = .call { callee := .builtin .append, args := #[s, x], argTypes := #[t, t] }) (E : Elem P t e d.sz bytes) (h : Own d e w B F v xs) (hs : a.eval s = v)
    (A : Option Addr) (c : Nat) (hx : a.eval x = .slice A ys.length c) (hr : Row d w F' A ys) (hFF : ∀ x cs, x ∈ ys → d.K w F' x cs → d.K w F x cs) (hF : ∀ k, F k → k < w.heap.size)
    (hby : (xs.length + ys.length) * bytes ≤ 140737488355328) (hbp : 0 < bytes) (hB : B ≤ w.heap.size)
    (hk : ∀ v' w', Own d e w' B F v' (xs ++ ys) → w.grownBy w' v.ownBlock → At w v v' → K (a.put o.dst v') w') :
    if Region.wanted o (yielded ops a.tmps) = true then Oper.wp P o a w K Q else G := by
  have hw : Region.wanted o (yielded ops a.tmps) = true := by simp [Region.wanted, hgd]
  rw [if_pos hw]
  exact wp_apps s x t ho E h hs A c hx hr hFF hF hby hbp hB hk
end
/-- A byte's cell, out of a block of its own. -/
theorem cell_new1 (w : World) (u : Value) (t : TypeId) : ∀ i x, [u][i]? = some x → (w.alloc (.cells #[u] t)).cell? ((⟨w.heap.size, 0, none⟩ : Addr).add i) = some x := cell_one_new w u t
theorem cell_new1d (w : World) (u : Value) (t : TypeId) : ∀ i x, [u][i]? = some x → (w.alloc (.cells #[u] t)).drew.cell? ((⟨w.heap.size, 0, none⟩ : Addr).add i) = some x := cell_one_new w u t

theorem At.of {w : World} {v v' : Value} (h : v'.ownBlock = v.ownBlock ∨ v'.ownBlock = some w.heap.size) : At w v v' := by
  rcases h with h | h
  · exact .inl h
  · exact .inr (fun k hk => by rw [h] at hk; injection hk with hk; omega)
theorem At.refl {w : World} {v : Value} : At w v v := .inl rfl
theorem At.trans {w w1 : World} {v v1 v2 : Value} (h : At w v v1) (h' : At w1 v1 v2) (hs : w.heap.size ≤ w1.heap.size) : At w v v2 := by
  rcases h' with h' | h'
  · rcases h with h | h
    · exact .inl (h'.trans h)
    · exact .inr (fun k hk => h k (by rw [← h']; exact hk))
  · exact .inr (fun k hk => Nat.le_trans hs (h' k hk))
/-- One append behind another: of the old blocks only the first row's has been written. -/
theorem grown_next {w wr wr' w1 : World} {v u : Value} (hg : w.grownBy wr v.ownBlock) (hat : At w v u) (hb : Below wr.heap.size wr wr') (h : wr'.grownBy w1 u.ownBlock) : w.grownBy w1 v.ownBlock := by
  refine ⟨h.os.trans (hb.os.trans hg.os), h.tape.trans (hb.tape.trans hg.tape), h.output.trans (hb.output.trans hg.output), Nat.le_trans hg.size (Nat.le_trans hb.size h.size), fun k hk hne => ?_⟩
  have h1 : some k ≠ u.ownBlock := by
    intro e
    rcases hat with ha | ha
    · exact hne (e.trans ha)
    · exact absurd (ha k e.symm) (by omega)
  have h2 := hg.size
  exact (h.block k (by have := hb.size; omega) h1).trans ((hb.block k (by omega)).trans (hg.block k hk hne))
theorem at_next {w wr wr' : World} {v u u' : Value} (hg : w.grownBy wr v.ownBlock) (hb : Below wr.heap.size wr wr') (h : At w v u) (h' : At wr' u u') : At w v u' := h.trans h' (Nat.le_trans hg.size hb.size)
/-- A row that was empty (nil): what was appended to lies in new blocks alone. -/
theorem below_of_grown {w w1 : World} {v : Value} (h : w.grownBy w1 v.ownBlock) (hv : ∀ k, v.ownBlock = some k → w.heap.size ≤ k) : Below w.heap.size w w1 :=
  ⟨h.os, h.tape, h.output, h.size, fun k hk => h.block k hk (fun e => absurd (hv k e.symm) (by omega))⟩
/-- A cell of a block that is newer than the row that is written. -/
theorem grown_newer {w W w1 : World} {v u : Value} (hO : ∀ k, v.ownBlock = some k → k < w.heap.size) (hg : W.grownBy w1 v.ownBlock) {p : Addr} (hp : w.heap.size ≤ p.block) (hc : W.cell? p = some u) : w1.cell? p = some u :=
  hg.cell hc (fun e => by have := hO _ e.symm; omega)
/-- A cell of a block between: newer than the row at first, older than the row's new place. -/
theorem grown_mid {w W w1 w2 : World} {v v' u : Value} (hO : ∀ k, v.ownBlock = some k → k < w.heap.size) (hat : At W v v') {p : Addr} (hp : w.heap.size ≤ p.block) (hp2 : p.block < W.heap.size) (hg : w1.grownBy w2 v'.ownBlock) (hc : w1.cell? p = some u) : w2.cell? p = some u :=
  hg.cell hc (fun e => by
    rcases hat with h | h
    · have := hO _ (h.symm.trans e.symm); omega
    · have := h _ e.symm; omega)
theorem Own.ltv {α : Type} {d : Kd α} {e : TypeId} {w : World} {B : Nat} {F : Foot} {v : Value} {xs : List α} (h : Own d e w B F v xs) : ∀ k, v.ownBlock = some k → k < w.heap.size := fun k hk => (h.lt k hk).2
/-- From w to w' of the old blocks only v's row has been written; v' is where the row lies now. -/
structure Grew (w w' : World) (v v' : Value) : Prop where
  grown : w.grownBy w' v.ownBlock
  at_ : At w v v'
theorem Grew.refl (w : World) (v : Value) : Grew w w v v := ⟨World.grownBy.refl _ _, At.refl⟩
theorem Grew.next {w wr wr' w1 : World} {v u u' : Value} (h : Grew w wr v u) (hb : Below wr.heap.size wr wr') (h' : Grew wr' w1 u u') : Grew w w1 v u' := ⟨grown_next h.grown h.at_ hb h'.grown, at_next h.grown hb h.at_ h'.at_⟩
theorem Grew.app {w wr wr' w1 : World} {v u u' : Value} (h : Grew w wr v u) (hb : Below wr.heap.size wr wr') (hg : wr'.grownBy w1 u.ownBlock) (ha : At wr' u u') : Grew w w1 v u' := h.next hb ⟨hg, ha⟩
theorem Grew.then {w wr wr' : World} {v u : Value} (h : Grew w wr v u) (hb : Below wr.heap.size wr wr') : Grew w wr' v u := h.next hb (Grew.refl _ _)
theorem Grew.size {w w' : World} {v v' : Value} (h : Grew w w' v v') : w.heap.size ≤ w'.heap.size := h.grown.size
/-- What leads to none of the row's blocks is as it was. -/
theorem Grew.block {w w' : World} {v v' : Value} (h : Grew w w' v v') {k : Nat} (hk : k < w.heap.size) (hne : v.ownBlock ≠ some k) : w'.heap[k]? = w.heap[k]? := h.grown.block k hk (fun e => hne e.symm)
theorem Grew.cell {w w' : World} {v v' : Value} (h : Grew w w' v v') {p : Addr} {u : Value} (hc : w.cell? p = some u) (hne : v.ownBlock ≠ some p.block) : w'.cell? p = some u := h.grown.cell hc (fun e => hne e.symm)
theorem Grew.sl {α : Type} {d : Kd α} {w w' : World} {F : Foot} {A : Option Addr} {c : Nat} {xs : List α} {v v' : Value} (h : Grew w w' v v') (hF : ∀ k, v.ownBlock = some k → ¬ F k) (hs : SL d w F A c xs) : SL d w' F A c xs :=
  hs.move (fun k hk hl => h.block hl (fun e => hF k e hk)) h.size
theorem Grew.kd {α : Type} {d : Kd α} {w w' : World} {F : Foot} {x : α} {cs : List Value} {v v' : Value} (h : Grew w w' v v') (hF : ∀ k, v.ownBlock = some k → ¬ F k) (hs : d.K w F x cs) : d.K w' F x cs :=
  d.move (fun k hk hl => h.block hl (fun e => hF k e hk)) h.size hs
/-- The row's new place is none of the blocks that were old and not the row's. -/
theorem Grew.ne {w w' : World} {v v' : Value} (h : Grew w w' v v') {k : Nat} (hk : k < w.heap.size) (hne : v.ownBlock ≠ some k) : v'.ownBlock ≠ some k := by
  intro e
  rcases h.at_ with ha | ha
  · exact hne (ha.symm.trans e)
  · have := ha k e; omega
theorem Grew.foot {w w' : World} {v v' : Value} {F : Foot} (h : Grew w w' v v') (hF : ∀ k, v.ownBlock = some k → ¬ F k) (hlt : ∀ k, F k → k < w.heap.size) : ∀ k, v'.ownBlock = some k → ¬ F k :=
  fun k hk hf => h.ne (hlt k hf) (fun e => hF k e hf) hk
end Go.Proofs.Ytmcdimcjmafaoaa.B
