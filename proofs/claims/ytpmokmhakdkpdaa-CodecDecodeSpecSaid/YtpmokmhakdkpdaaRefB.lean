import Derived.Test.YtpmokmhakdkpdaaOwnLit
import Derived.Test.YtpmokmhakdkpdaaSigned
import Derived.Deep.DeepCutAuto
namespace Go.Proofs.Ytpmokmhakdkpdaa.B
open Go.RowKit

/-- A row of bytes in new memory is handed back. -/
def FreshR (xs : List UInt8) (w : World) (e : Ending) (w' : World) : Prop := ∃ v, e = .returned v ∧ OwnB w' w.heap.size v xs ∧ Below w.heap.size w w'
theorem below_grown_new {B : Nat} {w w1 w2 : World} {row : Option Nat} (h : Below B w w1) (hg : w1.grownBy w2 row) (hr : ∀ k, row = some k → B ≤ k) (hB : B ≤ w1.heap.size) : Below B w w2 :=
  h.trans ⟨hg.os, hg.tape, hg.output, hg.size, fun k hk => hg.block k (by omega) (fun e => absurd (hr k e.symm) (by omega))⟩

set_option maxRecDepth 100000 in
set_option maxHeartbeats 1000000 in
/-- The reference's numeral. -/
theorem rnumeral_calls : ∀ (k u : Nat), u < 128 ^ (k + 1) → u < 18446744073709551616 → ∀ (w : World), Calls Try.prog 42 #[.int .u64 u] w (FreshR (numeral u) w) := by
  intro k
  induction k with
  | zero =>
    intro u hu hu64 w
    have hlt : u < 128 := by simpa using hu
    have hn := Lib.hid (numeral_lt hlt)
    clear hu
    go_enter Try.func42, Try.ntmps42
    go_wp2
    go_ret
    rw [hn.out]
    exact ⟨_, rfl, OwnB.lit1 w (UInt8.ofNat u) (by rw [UInt8.toNat_ofNat_of_lt' (by show u < 256; omega)]), by (with_reducible repeat (first | exact Below.refl _ _ | assumption | refine below_drew ?_ | refine below_drewN ?_ _ | refine below_box ?_ _))⟩
  | succ k ih =>
    intro u hu hu64 w
    by_cases hlt : u < 128
    · have hn := Lib.hid (numeral_lt hlt)
      clear hu
      go_enter Try.func42, Try.ntmps42
      go_wp2
      go_ret
      rw [hn.out]
      exact ⟨_, rfl, OwnB.lit1 w (UInt8.ofNat u) (by rw [UInt8.toNat_ofNat_of_lt' (by show u < 256; omega)]), by (with_reducible repeat (first | exact Below.refl _ _ | assumption | refine below_drew ?_ | refine below_drewN ?_ _ | refine below_box ?_ _))⟩
    · have hn := Lib.hid (numeral_ge (by omega : 128 ≤ u))
      have hk : u / 128 < 128 ^ (k + 1) := Nat.div_lt_of_lt_mul (by rw [Nat.pow_succ] at hu; omega)
      have hL : ([UInt8.ofNat (u % 128 + 128)].length + (numeral (u / 128)).length) * 1 ≤ 140737488355328 := by
        have := numeral_le10 (u := u / 128) (by omega)
        simp
        omega
      have HK := Lib.hid hk
      have HL := Lib.hid hL
      have HIH := Lib.hid (fun w => ih (u / 128) hk (by omega) w)
      have HO := Lib.hid (OwnB.lit1 w (UInt8.ofNat (u % 128 + 128)) (n := (u : Int) % 128 + 128) (by rw [UInt8.toNat_ofNat_of_lt' (by show u % 128 + 128 < 256; omega)]; omega))
      clear hu hk hL ih
      go_enter Try.func42, Try.ntmps42
      go_wp2_with (first | (go_at_call 42; refine (HIH.out _).mono ?_; rintro e w1 ⟨v1, rfl, hown1, hb1⟩; obtain ⟨A1, c1, rfl, hsl1⟩ := hown1.sl_all) | (at_builtin; (refine wpList_apps rfl (.tmp 12) (.tmp 15) _ rfl E_u8 (HO.out.below (by (with_reducible repeat (first | exact Below.refl _ _ | assumption | refine below_drew ?_ | refine below_drewN ?_ _ | refine below_box ?_ _)))) rfl A1 c1 rfl hsl1.row (fun _ _ _ h => h) (fun _ h => h.elim) HL.out (by decide) ?b ?_; (case b => have := hb1.size; simp at this; omega); intro v2 w2 hown2 hg2 hat2)))
      go_ret
      rw [hn.out]
      exact ⟨v2, rfl, hown2, below_grown_new (below_then (by (with_reducible repeat (first | exact Below.refl _ _ | assumption | refine below_drew ?_ | refine below_drewN ?_ _ | refine below_box ?_ _))) hb1) hg2 (fun k hk => Nat.le_of_eq (by simpa [Value.ownBlock] using hk)) (by have := hb1.size; simp at this; omega)⟩
/-- The reference's unsigned. -/
theorem runsigned_calls {w : World} {n : Int} (h1 : -9223372036854775808 ≤ n) (h2 : n ≤ 9223372036854775807) :
    Calls Try.prog 43 #[.int .i64 n] w fun e w' => e = .returned (.int .u64 (zig n)) ∧ w = w' := by
  by_cases h0 : 0 ≤ n
  · have hz : Hid ((zig n : Int) = 2 * n) := by show (zig n : Int) = 2 * n; unfold zig; split <;> omega
    go_enter Try.func43, Try.ntmps43
    go_wp2
    go_ret
    exact ⟨ret_int (by rw [hz.out]), rfl⟩
  · have hz : Hid ((zig n : Int) = 2 * (-(n + 1)) + 1) := by show (zig n : Int) = 2 * (-(n + 1)) + 1; unfold zig; split <;> omega
    go_enter Try.func43, Try.ntmps43
    go_wp2
    go_ret
    exact ⟨ret_int (by rw [hz.out]), rfl⟩
end Go.Proofs.Ytpmokmhakdkpdaa.B
