import Derived.Test.YtpmokmhakdkpdaaReader
import Derived.Laws.Bits64b
namespace Go.Proofs.Ytpmokmhakdkpdaa.B
open Go.RowKit

theorem and127_fin : ∀ x : Fin 256, bits .and .u8 (x.val : Int) 127 = ((x.val % 128 : Nat) : Int) := by decide +kernel
theorem and127 {m : Nat} (h : m < 256) : bits .and .u8 (m : Int) 127 = ((m % 128 : Nat) : Int) := and127_fin ⟨m, h⟩
theorem wrap_nat {m : Nat} (h : m < 18446744073709551616) : IntKind.u64.wrap (m : Int) = (m : Int) := by rw [IntKind.wrap_u64]; omega
theorem digit_lt {i c : Nat} (hi : i ≤ 9) (h9 : i < 9 ∨ c ≤ 1) : c % 128 * 2 ^ (7 * i) < 18446744073709551616 := by
  have hm : c % 128 < 128 := Nat.mod_lt _ (by decide)
  rcases Nat.lt_or_ge i 9 with h | h
  · have h1 : 2 ^ (7 * i) ≤ 2 ^ (7 * 8) := Nat.pow_le_pow_right (by decide) (by omega)
    have h2 : c % 128 * 2 ^ (7 * i) ≤ 127 * 2 ^ (7 * 8) := Nat.mul_le_mul (by omega) h1
    exact Nat.lt_of_le_of_lt h2 (by decide)
  · obtain rfl : i = 9 := by omega
    have h2 : c % 128 * 2 ^ (7 * 9) ≤ 1 * 2 ^ (7 * 9) := Nat.mul_le_mul (by omega) (Nat.le_refl _)
    exact Nat.lt_of_le_of_lt h2 (by decide)
theorem or_nat {i u c : Nat} (hu : u < 2 ^ (7 * i)) : u ||| (c * 2 ^ (7 * i)) = u + c * 2 ^ (7 * i) := by
  rw [Nat.or_comm, Nat.mul_comm c, ← Nat.two_pow_add_eq_or_of_lt hu, Nat.add_comm]
theorem or_digit {i u c : Nat} (hi : i ≤ 9) (h9 : i < 9 ∨ c ≤ 1) (hu : u < 2 ^ (7 * i)) (hc : c < 256) :
    bits .or .u64 (u : Int) (IntKind.u64.wrap (IntKind.u64.wrap (bits .and .u8 (c : Int) 127) * 2 ^ (7 * i))) = ((u + 2 ^ (7 * i) * (c % 128) : Nat) : Int) := by
  have hu' : u < 18446744073709551616 := Nat.lt_of_lt_of_le hu (Nat.le_trans (Nat.pow_le_pow_right (by decide) (by omega : 7 * i ≤ 63)) (by decide))
  have hd := digit_lt hi h9
  rw [and127 hc, wrap_nat (by omega), show ((c % 128 : Nat) : Int) * 2 ^ (7 * i) = ((c % 128 * 2 ^ (7 * i) : Nat) : Int) by push_cast; rfl, wrap_nat hd, bits_or_u64_nat _ _ hu' hd, or_nat hu, Nat.mul_comm]
theorem or_digit0 {u c : Nat} (hu : u < 2 ^ (7 * 0)) (hc : c < 256) :
    bits .or .u64 (u : Int) (IntKind.u64.wrap (IntKind.u64.wrap (bits .and .u8 (c : Int) 127))) = ((u + 2 ^ (7 * 0) * (c % 128) : Nat) : Int) := by
  rw [← or_digit (by omega) (.inl (by omega)) hu hc]
  simp

set_option maxRecDepth 100000 in
set_option maxHeartbeats 2000000 in
/-- number(): a numeral. -/
theorem number_calls {w : World} {g : Nat} {F : Foot} {rest : List UInt8} (h : Rd w g F rest) :
    Calls Try.prog 46 #[.pointer (some ⟨g, 0, none⟩)] w
      (ReadsTo w g F (numM 0 rest) fun n _ v => v = .int .u64 n) := by
  have H := Lib.hid h
  have hlt := h.lt
  clear h
  go_enter Try.func46, Try.ntmps46
  go_upto_region 2 with fail
  go_loopw [2, 3] (fun u' i' wr => ∃ (i u : Nat) (r : List UInt8), i' = .int .i64 i ∧ u' = .int .u64 u ∧ i ≤ 9 ∧ Hid (u < 2 ^ (7 * i)) ∧ Hid (numM 0 rest = (numM i r).map fun p => (u + 2 ^ (7 * i) * p.1, p.2)) ∧ Hid (Rd wr g F r) ∧ Hid (w.grownBy wr (some g))) (fun _ i' _ => 10 - (intOf i').toNat)
  case atStart => exact ⟨0, 0, rest, rfl, rfl, by omega, (by decide : 0 < 2 ^ (7 * 0)), (by show numM 0 rest = _; cases numM 0 rest <;> simp), H, World.grownBy.refl _ _⟩
  case round =>
    obtain ⟨i, u, r, rfl, rfl, hi, hu, hnum, hr, hg⟩ := hrel
    have HG1 : ∀ w1, wr.grownBy w1 (some g) → w.grownBy w1 (some g) := fun w1 h => grown_trans hg.out h
    cases r with
    | nil =>
      have hnone : Hid (numM 0 rest = none) := by show numM 0 rest = none; rw [hnum.out]; rfl
      go_wp2_with (go_at_call 44; refine (take1_nil hr.out).mono ?_; rintro e w1 ⟨rfl, hg1⟩)
      exact ⟨rfl, by rw [hnone.out]; exact ReadsTo.bad (HG1 _ hg1)⟩
    | cons c r =>
      have hc256 : c.toNat < 256 := c.toNat_lt
      by_cases hok : (i = 0 ∨ c.toNat ≠ 0) ∧ (i < 9 ∨ c.toNat ≤ 1)
      · obtain ⟨hok1, hok2⟩ := hok
        have hcase : i = 0 ∨ (i ≠ 0 ∧ c.toNat ≠ 0 ∧ i < 9) ∨ (i = 9 ∧ c.toNat ≠ 0 ∧ c.toNat ≤ 1) := by omega
        by_cases hlast : c.toNat < 128
        · have hsome : Hid (numM 0 rest = some (u + 2 ^ (7 * i) * (c.toNat % 128), r)) := by
            show numM 0 rest = _
            rw [hnum.out, numM, if_pos ⟨hok1, hok2⟩, if_pos hlast, Nat.mod_eq_of_lt hlast]; rfl
          clear hnum
          clear hok1
          rcases hcase with rfl | ⟨h1, h2, h3⟩ | ⟨rfl, h2, h3⟩
          · clear hok2
            go_wp2_with (first | (go_at_call 44; refine (take1_cons hr.out).mono ?_; rintro e w1 ⟨ad, cap, rfl, hcell, hg1, hr1⟩) | (go_at_call 33; refine (want_yes (by first | rfl | (simp <;> omega))).mono ?_; rintro e w1 ⟨rfl, rfl⟩))
            go_ret
            rw [hsome.out]
            exact ReadsTo.ok (HG1 _ hg1) (by exact congrArg (Value.int .u64) (or_digit0 hu.out hc256)) hr1
          · have HK := Lib.hid hok2
            clear hok2
            go_wp2_with (first | (go_at_call 44; refine (take1_cons hr.out).mono ?_; rintro e w1 ⟨ad, cap, rfl, hcell, hg1, hr1⟩) | (go_at_call 33; refine (want_yes (by first | rfl | (simp <;> omega))).mono ?_; rintro e w1 ⟨rfl, rfl⟩))
            go_ret
            rw [hsome.out]
            exact ReadsTo.ok (HG1 _ hg1) (by exact congrArg (Value.int .u64) (or_digit hi HK.out hu.out hc256)) hr1
          · have HK := Lib.hid hok2
            clear hok2
            go_wp2_with (first | (go_at_call 44; refine (take1_cons hr.out).mono ?_; rintro e w1 ⟨ad, cap, rfl, hcell, hg1, hr1⟩) | (go_at_call 33; refine (want_yes (by first | rfl | (simp <;> omega))).mono ?_; rintro e w1 ⟨rfl, rfl⟩))
            go_ret
            rw [hsome.out]
            exact ReadsTo.ok (HG1 _ hg1) (by exact congrArg (Value.int .u64) (or_digit (i := 9) hi HK.out hu.out hc256)) hr1
        · have hstep : Hid (numM 0 rest = (numM (i + 1) r).map fun p => (u + 2 ^ (7 * i) * (c.toNat % 128) + 2 ^ (7 * (i + 1)) * p.1, p.2)) := by
            show numM 0 rest = _
            rw [hnum.out, numM, if_pos ⟨hok1, hok2⟩, if_neg hlast]
            have e : 2 ^ (7 * (i + 1)) = 2 ^ (7 * i) * 128 := by rw [show 7 * (i + 1) = 7 * i + 7 by omega, Nat.pow_add]
            rw [e]
            cases numM (i + 1) r with
            | none => rfl
            | some p => show some (u + 2 ^ (7 * i) * (c.toNat % 128 + 128 * p.1), p.2) = some (u + 2 ^ (7 * i) * (c.toNat % 128) + 2 ^ (7 * i) * 128 * p.1, p.2); rw [Nat.mul_add, Nat.mul_assoc, Nat.add_assoc]
          have hlt' : Hid (u + 2 ^ (7 * i) * (c.toNat % 128) < 2 ^ (7 * (i + 1))) := by
            show u + 2 ^ (7 * i) * (c.toNat % 128) < _
            have e : 2 ^ (7 * (i + 1)) = 2 ^ (7 * i) * 128 := by rw [show 7 * (i + 1) = 7 * i + 7 by omega, Nat.pow_add]
            rw [e]
            have h1 : 2 ^ (7 * i) * (c.toNat % 128) ≤ 2 ^ (7 * i) * 127 := Nat.mul_le_mul_left _ (by omega)
            have h2 : 2 ^ (7 * i) * 128 = 2 ^ (7 * i) * 127 + 2 ^ (7 * i) := rfl
            have := hu.out
            omega
          clear hnum
          clear hok1
          rcases hcase with rfl | ⟨h1, h2, h3⟩ | ⟨rfl, h2, h3⟩
          · clear hok2
            go_wp2_with (first | (go_at_call 44; refine (take1_cons hr.out).mono ?_; rintro e w1 ⟨ad, cap, rfl, hcell, hg1, hr1⟩) | (go_at_call 33; refine (want_yes (by first | rfl | (simp <;> omega))).mono ?_; rintro e w1 ⟨rfl, rfl⟩))
            go_roundw
            case rel => exact ⟨1, _, r, rfl, congrArg (Value.int .u64) (or_digit0 hu.out hc256), by omega, hlt', hstep, hr1, HG1 _ hg1⟩
            case measure => simp [intOf]
          · have HK := Lib.hid hok2
            clear hok2
            go_wp2_with (first | (go_at_call 44; refine (take1_cons hr.out).mono ?_; rintro e w1 ⟨ad, cap, rfl, hcell, hg1, hr1⟩) | (go_at_call 33; refine (want_yes (by first | rfl | (simp <;> omega))).mono ?_; rintro e w1 ⟨rfl, rfl⟩))
            go_roundw
            case rel => exact ⟨i + 1, _, r, by go_num, congrArg (Value.int .u64) (or_digit hi HK.out hu.out hc256), by omega, hlt', hstep, hr1, HG1 _ hg1⟩
            case measure => simp [intOf]; omega
          · exact absurd h3 (by omega)
      · have hnone : Hid (numM 0 rest = none) := by show numM 0 rest = none; rw [hnum.out, numM, if_neg hok]; rfl
        clear hnum
        have hcase : (i ≠ 0 ∧ c.toNat = 0) ∨ (i = 9 ∧ 1 < c.toNat) := by omega
        clear hok
        rcases hcase with ⟨h1, h2⟩ | ⟨rfl, h2⟩
        · go_wp2_with (first | (go_at_call 44; refine (take1_cons hr.out).mono ?_; rintro e w1 ⟨ad, cap, rfl, hcell, hg1, hr1⟩) | (go_at_call 33; refine (want_no (by simp <;> omega)).mono ?_; rintro e w1 ⟨rfl, rfl⟩))
          exact ⟨rfl, by rw [hnone.out]; exact ReadsTo.bad (HG1 _ hg1)⟩
        · go_wp2_with (first | (go_at_call 44; refine (take1_cons hr.out).mono ?_; rintro e w1 ⟨ad, cap, rfl, hcell, hg1, hr1⟩) | (go_at_call 33; refine (want_no (by simp <;> omega)).mono ?_; rintro e w1 ⟨rfl, rfl⟩))
          exact ⟨rfl, by rw [hnone.out]; exact ReadsTo.bad (HG1 _ hg1)⟩
end Go.Proofs.Ytpmokmhakdkpdaa.B
