/- The codec in plain Lean: well-formedness, depth. No program in sight. -/
import Derived.Test.YtpmokmhakdkpdaaVal
namespace Go.Proofs.Ytpmokmhakdkpdaa.B

mutual
/-- Is a value well-formed? -/
def Val.formed : Val → Bool
  | ⟨k, n, s, l⟩ => if k = 1 then s.toList.isEmpty && l.isEmpty else if k = 2 then n == 0 && l.isEmpty else if k = 3 then n == 0 && s.toList.isEmpty && formedL l else false
def formedL : List Val → Bool
  | [] => true
  | x :: r => x.formed && formedL r
end
mutual
/-- A value's depth. -/
def Val.depth : Val → Nat
  | ⟨k, _, _, l⟩ => if k = 3 then depthL l + 1 else 0
def depthL : List Val → Nat
  | [] => 0
  | x :: r => Nat.max x.depth (depthL r)
end
theorem formedL_append (a b : List Val) : formedL (a ++ b) = (formedL a && formedL b) := by
  induction a with
  | nil => simp [formedL]
  | cons x r ih => simp [formedL, ih, Bool.and_assoc]
theorem depthL_append (a b : List Val) : depthL (a ++ b) = Nat.max (depthL a) (depthL b) := by
  induction a with
  | nil => simp [depthL]
  | cons x r ih => simp only [List.cons_append, depthL, ih]; exact (Nat.max_assoc _ _ _).symm
theorem take_snoc {α : Type} (l : List α) {k : Nat} (h : k < l.length) : l.take (k + 1) = l.take k ++ [l[k]] := by
  rw [List.take_succ_eq_append_getElem h]
theorem formedL_all {l : List Val} (h : formedL l = true) : ∀ x ∈ l, x.formed = true := by
  induction l with
  | nil => intro x hx; cases hx
  | cons y r ih =>
    simp only [formedL, Bool.and_eq_true] at h
    intro x hx
    rcases List.mem_cons.1 hx with rfl | hx
    · exact h.1
    · exact ih h.2 x hx
theorem formedL_of {l : List Val} (h : ∀ x ∈ l, x.formed = true) : formedL l = true := by
  induction l with
  | nil => rfl
  | cons y r ih =>
    simp only [formedL, Bool.and_eq_true]
    exact ⟨h y List.mem_cons_self, ih (fun x hx => h x (List.mem_cons_of_mem _ hx))⟩
theorem depthL_le {l : List Val} {n : Nat} : depthL l ≤ n ↔ ∀ x ∈ l, x.depth ≤ n := by
  induction l with
  | nil => simp [depthL]
  | cons y r ih =>
    simp only [depthL, List.mem_cons, forall_eq_or_imp]
    rw [← ih]
    exact Nat.max_le
theorem depth_le_of_mem {l : List Val} {x : Val} (h : x ∈ l) : x.depth ≤ depthL l := depthL_le.1 (Nat.le_refl _) x h
theorem formedL_take {l : List Val} {k : Nat} (h : k < l.length) (hf : formedL (l.take k) = true) : formedL (l.take (k + 1)) = l[k].formed := by
  rw [take_snoc l h, formedL_append, hf]
  simp [formedL]
theorem depthL_take {l : List Val} {k : Nat} (h : k < l.length) : depthL (l.take (k + 1)) = Nat.max (depthL (l.take k)) l[k].depth := by
  rw [take_snoc l h, depthL_append]
  simp [depthL]
theorem formed_kind {v : Val} (h : v.formed = true) : v.kind = 1 ∨ v.kind = 2 ∨ v.kind = 3 := by
  obtain ⟨k, n, s, l⟩ := v
  simp only [Val.formed] at h
  show k = 1 ∨ k = 2 ∨ k = 3
  by_cases h1 : k = 1
  · exact .inl h1
  · by_cases h2 : k = 2
    · exact .inr (.inl h2)
    · by_cases h3 : k = 3
      · exact .inr (.inr h3)
      · rw [if_neg h1, if_neg h2, if_neg h3] at h; cases h
theorem formed_list_of {n : Int} {s : ByteArray} {l : List Val} (h : Val.formed ⟨3, n, s, l⟩ = true) : n = 0 ∧ s.toList = [] ∧ formedL l = true := by
  simp [Val.formed] at h
  exact ⟨h.1.1, h.1.2, h.2⟩
end Go.Proofs.Ytpmokmhakdkpdaa.B
