/- A string's bytes as a list: two ways that tell the same. -/
import Derived.Test.YtpmokmhakdkpdaaBase
namespace Go.Proofs.Ytpmokmhakdkpdaa.B
theorem str_loop_eq (s : ByteArray) : ∀ (k i : Nat) (r : List UInt8), s.size - i = k → ByteArray.toList.loop s i r = r.reverse ++ s.data.toList.drop i := by
  intro k
  induction k with
  | zero =>
    intro i r h
    rw [ByteArray.toList.loop]
    rw [if_neg (by omega), List.drop_eq_nil_of_le (by show s.data.toList.length ≤ i; rw [Array.length_toList]; show s.size ≤ i; omega), List.append_nil]
  | succ k ih =>
    intro i r h
    rw [ByteArray.toList.loop, if_pos (by omega), ih (i+1) _ (by omega)]
    have hl : i < s.data.toList.length := by rw [Array.length_toList]; show i < s.size; omega
    rw [List.reverse_cons, List.append_assoc, List.drop_eq_getElem_cons hl]
    congr 2
    show [s.get! i] ++ _ = _
    have : s.get! i = s.data.toList[i] := by
      have h' : i < s.data.size := by show i < s.size; omega
      show s.data[i]! = s.data[i]
      exact getElem!_pos s.data i h'
    rw [this]; rfl
theorem toList_eq (s : ByteArray) : s.toList = s.data.toList := by
  unfold ByteArray.toList
  rw [str_loop_eq s s.size 0 [] (by omega)]; simp
theorem toList_inj {a b : ByteArray} (h : a.toList = b.toList) : a = b := by
  rw [toList_eq, toList_eq] at h
  obtain ⟨⟨x⟩⟩ := a
  obtain ⟨⟨y⟩⟩ := b
  simpa using h
end Go.Proofs.Ytpmokmhakdkpdaa.B
