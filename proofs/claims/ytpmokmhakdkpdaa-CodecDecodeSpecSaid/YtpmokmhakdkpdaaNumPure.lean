/- Numerals to the base 128, in plain Lean. -/
import Derived.Test.YtpmokmhakdkpdaaBase
namespace Go.Proofs.Ytpmokmhakdkpdaa.B

/-- The digits of a number to the base 128, the least significant one first; 128 is added to each but the last. -/
def numeral (u : Nat) : List UInt8 := if u < 128 then [UInt8.ofNat u] else UInt8.ofNat (u % 128 + 128) :: numeral (u / 128)
theorem numeral_lt {u : Nat} (h : u < 128) : numeral u = [UInt8.ofNat u] := by rw [numeral]; exact if_pos h
theorem numeral_ge {u : Nat} (h : 128 ≤ u) : numeral u = UInt8.ofNat (u % 128 + 128) :: numeral (u / 128) := by rw [numeral]; exact if_neg (by omega)
theorem numeral_pos (u : Nat) : 0 < (numeral u).length := by rw [numeral]; split <;> simp
theorem numeral_len : ∀ (k u : Nat), u < 128 ^ (k + 1) → (numeral u).length ≤ k + 1 := by
  intro k
  induction k with
  | zero => intro u h; rw [numeral_lt (by omega)]; simp
  | succ k ih =>
    intro u h
    rcases Nat.lt_or_ge u 128 with h1 | h1
    · rw [numeral_lt h1]; simp
    · rw [numeral_ge h1, List.length_cons]
      have := ih (u / 128) (Nat.div_lt_of_lt_mul (by rw [Nat.pow_succ] at h; omega))
      omega
theorem numeral_le10 {u : Nat} (h : u < 18446744073709551616) : (numeral u).length ≤ 10 := numeral_len 9 u (Nat.lt_trans h (by decide))
end Go.Proofs.Ytpmokmhakdkpdaa.B
