/- A string's bytes appended to a row of bytes of the call's own; bytes as cells. -/
import Derived.Test.YtpmokmhakdkpdaaOwn
import Derived.Lib.AppendStr
namespace Go.Proofs.Ytpmokmhakdkpdaa.B
open Go.RowKit
theorem cells_u8 {w : World} {F : Foot} {xs : List UInt8} {cells : List Value} : CellsOf kU8 w F xs cells ↔ cells = xs.map (fun b => Value.int .u8 (b.toNat : Int)) := by
  constructor
  · intro h
    have hl : cells.length = xs.length := by have := h.1; simpa [kU8] using this
    apply List.ext_getElem?
    intro j
    rw [List.getElem?_map]
    cases hj : xs[j]? with
    | none => rw [List.getElem?_eq_none_iff] at hj; rw [List.getElem?_eq_none (by omega)]; rfl
    | some x =>
      have h1 := h.2 j x hj
      have hjl := (List.getElem?_eq_some_iff.1 hj).1
      have h2 : (cells.drop (j * 1)).take 1 = [Value.int .u8 (x.toNat : Int)] := h1
      rw [Nat.mul_one, List.drop_eq_getElem_cons (by omega)] at h2
      simp only [List.take_succ_cons, List.take_zero, List.cons.injEq, and_true] at h2
      rw [List.getElem?_eq_getElem (by omega), h2]
      rfl
  · rintro rfl
    refine ⟨by simp [kU8], fun j x hj => ?_⟩
    have hjl := (List.getElem?_eq_some_iff.1 hj).1
    show ((xs.map (fun b => Value.int .u8 (b.toNat : Int))).drop (j * 1)).take 1 = [Value.int .u8 (x.toNat : Int)]
    rw [Nat.mul_one, ← List.map_drop, List.drop_eq_getElem_cons hjl]
    simp only [List.map_cons, List.take_succ_cons, List.take_zero, List.cons.injEq, and_true]
    rw [(List.getElem?_eq_some_iff.1 hj).2]
theorem strCells_eq (s : ByteArray) : Lib.strCells s = s.data.toList.map (fun b => Value.int .u8 (b.toNat : Int)) := rfl

section
variable {P : Program} {e : TypeId} {w : World} {B : Nat} {F : Foot} {v : Value} {xs : List UInt8} {ops : Array Oper} {rest : List Oper} {o : Oper} {a : Act} {K : Act → World → Prop} {Q : Exit → Act → World → Prop} {G : Prop}
theorem run_appstr {t u ty : TypeId} (ht : P.underlying t = some (.slice e)) (hu : P.underlying u = some .string) (hi : ∃ i, P.info? e = some i ∧ i.zero = some (.int .u8 0) ∧ i.size = 1 ∧ i.bytes = 1)
    (h : Own kU8 e w B F v xs) (s : ByteArray) (hF : ∀ k, F k → k < w.heap.size) (hby : xs.length + s.size ≤ 140737488355328) (hB : B ≤ w.heap.size) :
    ∃ v' w', (Builtin.append_ #[t, u] ty #[v, .string s]).run P w = .ok v' w' ∧ Own kU8 e w' B F v' (xs ++ s.data.toList) ∧ w.grownBy w' v.ownBlock ∧ At w v v' := by
  obtain ⟨i, hi, hz, hsz, hbytes⟩ := hi
  obtain ⟨cells, ho, hcs, hn⟩ := h
  have h63 : xs.length + s.size ≤ maxLen := by simp only [maxLen]; omega
  obtain ⟨v', w', hrun, h2, h3, h4⟩ := Lib.run_append_own_string (P := P) w B t u ty e i ht hu hi hz hsz hbytes v _ cells ho s h63 hby hB
  have hat : v'.ownBlock = v.ownBlock ∨ v'.ownBlock = some w.heap.size := by
    rcases ho.2 with ⟨rfl, h0⟩ | ⟨g, cap, cur, rfl, hbg, hg, hnc, hcm, hcsz, htake⟩
    · by_cases hm : s.size = 0
      · have := h4.2 ⟨rfl, hm⟩
        subst this
        exact .inl rfl
      · have hr := run_append_nil_string (P := P) w t u ty e i (.int .u8 0) ht hu hi hz s (by omega) (by omega) (by rw [hbytes]; omega)
        rw [hr] at hrun
        injection hrun with h5
        subst h5
        exact .inr rfl
    · by_cases hroom : xs.length + s.size ≤ cap
      · have hr := Lib.run_append_room_string (P := P) w t u ty e i ht hu hi hsz g _ cap cur hg s hroom (by have : cur.size = cap := by simpa [kU8] using hcsz
                                                                                                            omega)
        rw [hr] at hrun
        injection hrun with h5
        subst h5
        exact .inl rfl
      · have holds : ∀ j u, cells[j]? = some u → w.cell? ((⟨g, 0, none⟩ : Addr).add j) = some u := ho.cells (g := g) rfl
        have hr := Lib.run_append_grow_string (P := P) w t u ty e i (.int .u8 0) ht hu hi hz ⟨g, 0, none⟩ _ cap cells (by rw [hsz]; simpa [kU8] using ho.1) holds s (by omega) (by omega) (by rw [hbytes]; exact growslice_fits (by omega) (by omega))
        rw [hr] at hrun
        injection hrun with h5
        subst h5
        exact .inr rfl
  refine ⟨v', w', hrun, ⟨_, by rw [List.length_append, Array.length_toList]; exact h2, ?_, fun k hk => ?_⟩, h3, At.of hat⟩
  · rw [cells_u8] at hcs ⊢
    rw [hcs, strCells_eq, List.map_append]
  · rcases hat with h5 | h5
    · exact hn k (by rw [← h5]; exact hk)
    · rw [h5] at hk
      injection hk with hk
      subst hk
      exact fun hf => absurd (hF _ hf) (Nat.lt_irrefl _)
theorem wp_appstr (sl x : Operand) (t u : TypeId) (ho : o.op = .call { callee := .builtin .append, args := #[sl, x], argTypes := #[t, u] })
    (ht : P.underlying t = some (.slice e)) (hu : P.underlying u = some .string) (hi : ∃ i, P.info? e = some i ∧ i.zero = some (.int .u8 0) ∧ i.size = 1 ∧ i.bytes = 1)
    (h : Own kU8 e w B F v xs) (hs : a.eval sl = v) (s : ByteArray) (hx : a.eval x = .string s) (hF : ∀ k, F k → k < w.heap.size) (hby : xs.length + s.size ≤ 140737488355328) (hB : B ≤ w.heap.size)
    (hk : ∀ v' w', Own kU8 e w' B F v' (xs ++ s.data.toList) → w.grownBy w' v.ownBlock → At w v v' → K (a.put o.dst v') w') : o.wp P a w K Q := by
  obtain ⟨v', w', hrun, h2, h3, h4⟩ := run_appstr (P := P) (ty := o.type) ht hu hi h s hF hby hB
  unfold Oper.wp execOp
  simp only [ho, resolve, invoke, builtin, Sem.run_bind, Sem.run_pure, Result.andThen_ok, List.map_toArray, List.map_cons, List.map_nil, hs, hx, hrun]
  exact hk v' w' h2 h3 h4
theorem step_appstr (hgd : o.guard = none) (sl x : Operand) (t u : TypeId) (ho : o.op = .call { callee := .builtin .append, args := #[sl, x], argTypes := #[t, u] })
    (ht : P.underlying t = some (.slice e)) (hu : P.underlying u = some .string) (hi : ∃ i, P.info? e = some i ∧ i.zero = some (.int .u8 0) ∧ i.size = 1 ∧ i.bytes = 1)
    (h : Own kU8 e w B F v xs) (hs : a.eval sl = v) (s : ByteArray) (hx : a.eval x = .string s) (hF : ∀ k, F k → k < w.heap.size) (hby : xs.length + s.size ≤ 140737488355328) (hB : B ≤ w.heap.size)
    (hk : ∀ v' w', Own kU8 e w' B F v' (xs ++ s.data.toList) → w.grownBy w' v.ownBlock → At w v v' → K (a.put o.dst v') w') :
    if Region.wanted o (yielded ops a.tmps) = true then Oper.wp P o a w K Q else G := by
  have hw : Region.wanted o (yielded ops a.tmps) = true := by simp [Region.wanted, hgd]
  rw [if_pos hw]
  exact wp_appstr sl x t u ho ht hu hi h hs s hx hF hby hB hk
end
end Go.Proofs.Ytpmokmhakdkpdaa.B
