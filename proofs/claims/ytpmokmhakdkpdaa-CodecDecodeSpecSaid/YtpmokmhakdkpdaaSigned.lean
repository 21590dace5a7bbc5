import Derived.Test.YtpmokmhakdkpdaaEncPure
import Derived.Test.YtpmokmhakdkpdaaProg
import Derived.Laws.BitsAllLaws
import Derived.Laws.Bits64
namespace Go.Proofs.Ytpmokmhakdkpdaa.B
open Go.RowKit
theorem xor_ones (a : Nat) (ha : a < 18446744073709551616) : a ^^^ 18446744073709551615 = 18446744073709551615 - a := by
  have h : (BitVec.ofNat 64 a ^^^ BitVec.allOnes 64).toNat = (~~~ BitVec.ofNat 64 a).toNat := by rw [BitVec.xor_allOnes]
  rw [BitVec.toNat_xor, BitVec.toNat_not, BitVec.toNat_ofNat, BitVec.toNat_allOnes, Nat.mod_eq_of_lt (by simpa using ha)] at h
  simpa using h

theorem unsigned_bits {n : Int} (h1 : -9223372036854775808 ≤ n) (h2 : n ≤ 9223372036854775807) :
    bits .xor .u64 (IntKind.u64.wrap (IntKind.u64.wrap n * 2)) (IntKind.u64.wrap (n / 9223372036854775808)) = (zig n : Int) := by
  rw [IntKind.wrap_u64, IntKind.wrap_u64, IntKind.wrap_u64]
  have hz : zig n = if 0 ≤ n then (2 * n).toNat else (-2 * n - 1).toNat := rfl
  by_cases h : 0 ≤ n
  · rw [if_pos h] at hz
    have e1 : (n % 18446744073709551616 * 2) % 18446744073709551616 = ((2 * n).toNat : Nat) := by omega
    have e2 : n / 9223372036854775808 % 18446744073709551616 = ((0 : Nat) : Int) := by omega
    rw [e1, e2, bits_xor_u64_nat _ _ (by omega) (by decide), hz, Nat.xor_zero]
  · rw [if_neg h] at hz
    have e1 : (n % 18446744073709551616 * 2) % 18446744073709551616 = ((18446744073709551616 + 2 * n).toNat : Nat) := by omega
    have e2 : n / 9223372036854775808 % 18446744073709551616 = ((18446744073709551615 : Nat) : Int) := by omega
    rw [e1, e2, bits_xor_u64_nat _ _ (by omega) (by decide), xor_ones _ (by omega), hz]
    omega

theorem bits_xor_i64 (x y : Int) : bits .xor .i64 x y = IntKind.i64.wrap ((BitVec.ofInt 64 x ^^^ BitVec.ofInt 64 y).toNat) := rfl
theorem signed_bits {u : Nat} (h : u < 18446744073709551616) :
    bits .xor .i64 ((u : Int) / 2) (wrap64 (-wrap64 (bits .and .u64 (u : Int) 1))) = zag u := by
  have ha : bits .and .u64 (u : Int) 1 = ((u % 2 : Nat) : Int) := by
    have := u64_and_nat u 1 h (by decide)
    rw [Nat.and_one_is_mod] at this
    exact this
  rw [ha, bits_xor_i64, IntKind.wrap_i64]
  have e0 : (BitVec.ofInt 64 ((u : Int) / 2)) = BitVec.ofNat 64 (u / 2) := by
    rw [show ((u : Int) / 2) = ((u / 2 : Nat) : Int) by omega]
    exact BitVec.ofInt_natCast _ _
  unfold zag
  rcases Nat.mod_two_eq_zero_or_one u with h0 | h0
  · rw [if_pos h0, h0, e0]
    have : BitVec.ofInt 64 (wrap64 (-wrap64 ((0 : Nat) : Int))) = BitVec.ofNat 64 0 := by decide +kernel
    rw [this, BitVec.toNat_xor, BitVec.toNat_ofNat, BitVec.toNat_ofNat, Nat.mod_eq_of_lt (by omega), Nat.zero_mod, Nat.xor_zero]
    omega
  · rw [if_neg (by omega), h0, e0]
    have : BitVec.ofInt 64 (wrap64 (-wrap64 ((1 : Nat) : Int))) = BitVec.allOnes 64 := by decide +kernel
    rw [this, BitVec.xor_allOnes, BitVec.toNat_not, BitVec.toNat_ofNat, Nat.mod_eq_of_lt (by omega)]
    omega

set_option maxRecDepth 100000 in
theorem unsigned_calls {w : World} {n : Int} (h1 : -9223372036854775808 ≤ n) (h2 : n ≤ 9223372036854775807) :
    Calls Try.prog 39 #[.int .i64 n] w fun e w' => e = .returned (.int .u64 (zig n)) ∧ w = w' := by
  go_enter Try.func39, Try.ntmps39
  go_wp2
  go_ret
  exact ⟨ret_int (unsigned_bits h1 h2), rfl⟩
set_option maxRecDepth 100000 in
theorem signed_calls {w : World} {u : Nat} (h1 : u < 18446744073709551616) :
    Calls Try.prog 45 #[.int .u64 u] w fun e w' => e = .returned (.int .i64 (zag u)) ∧ w = w' := by
  go_enter Try.func45, Try.ntmps45
  go_wp2
  go_ret
  exact ⟨ret_int (signed_bits h1), rfl⟩
end Go.Proofs.Ytpmokmhakdkpdaa.B
