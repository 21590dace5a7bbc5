/- Encodings, in plain Lean. -/
import Derived.Test.YtpmokmhakdkpdaaCodecPure
import Derived.Test.YtpmokmhakdkpdaaNumPure
namespace Go.Proofs.Ytpmokmhakdkpdaa.B
/-- An integer's unsigned form, and back. -/
def zig (n : Int) : Nat := if 0 ≤ n then (2 * n).toNat else (-2 * n - 1).toNat
def zag (u : Nat) : Int := if u % 2 = 0 then (u / 2 : Nat) else -((u / 2 : Nat) : Int) - 1
theorem zag_zig (n : Int) : zag (zig n) = n := by unfold zag zig; split <;> split <;> omega
theorem zig_zag (u : Nat) : zig (zag u) = u := by unfold zag zig; split <;> split <;> omega
theorem zig_lt {n : Int} (h1 : -9223372036854775808 ≤ n) (h2 : n ≤ 9223372036854775807) : zig n < 18446744073709551616 := by unfold zig; split <;> omega
theorem zag_in {u : Nat} (h : u < 18446744073709551616) : -9223372036854775808 ≤ zag u ∧ zag u ≤ 9223372036854775807 := by unfold zag; split <;> omega
mutual
/-- The encoding of a value. -/
def enc : Val → List UInt8
  | ⟨k, n, s, l⟩ => if k = 1 then 1 :: numeral (zig n) else if k = 2 then 2 :: (numeral s.size ++ s.data.toList) else 3 :: (numeral l.length ++ encL l)
def encL : List Val → List UInt8
  | [] => []
  | x :: r => enc x ++ encL r
end
theorem encL_append (a b : List Val) : encL (a ++ b) = encL a ++ encL b := by
  induction a with
  | nil => simp [encL]
  | cons x r ih => simp [encL, ih]
theorem encL_take {l : List Val} {k : Nat} (h : k < l.length) : encL (l.take (k + 1)) = encL (l.take k) ++ enc l[k] := by
  rw [take_snoc l h, encL_append]
  simp [encL]
theorem enc_le_of_mem {l : List Val} {x : Val} (h : x ∈ l) : (enc x).length ≤ (encL l).length := by
  induction l with
  | nil => cases h
  | cons y r ih =>
    simp only [encL, List.length_append]
    rcases List.mem_cons.1 h with rfl | h
    · omega
    · have := ih h; omega
theorem encL_take_le (l : List Val) (k : Nat) : (encL (l.take k)).length ≤ (encL l).length := by
  conv => rhs; rw [← List.take_append_drop k l, encL_append]
  rw [List.length_append]
  omega
theorem encL_split {l : List Val} {k : Nat} (h : k < l.length) : (encL (l.take k)).length + (enc l[k]).length ≤ (encL l).length := by
  have := encL_take_le l (k + 1)
  rw [encL_take h, List.length_append] at this
  exact this
theorem enc_int (n : Int) (s : ByteArray) (l : List Val) : enc ⟨1, n, s, l⟩ = 1 :: numeral (zig n) := by simp [enc]
theorem enc_text (n : Int) (s : ByteArray) (l : List Val) : enc ⟨2, n, s, l⟩ = 2 :: (numeral s.size ++ s.data.toList) := by simp [enc]
theorem enc_list (n : Int) (s : ByteArray) (l : List Val) : enc ⟨3, n, s, l⟩ = 3 :: (numeral l.length ++ encL l) := by simp [enc]
end Go.Proofs.Ytpmokmhakdkpdaa.B
