import Derived.Test.YtpmokmhakdkpdaaOwn
import Derived.Test.YtpmokmhakdkpdaaNumPure
import Derived.Test.YtpmokmhakdkpdaaProg
import Derived.Deep.LoopGhost
import Derived.Deep.DeepCutAuto
namespace Go.Proofs.Ytpmokmhakdkpdaa.B
open Go.RowKit

theorem info_u8 : (Try.prog.info? 5).map (fun i => (i.zero, i.size, i.bytes)) = some (some (.int .u8 0), 1, 1) := by kernel_rfl
theorem E_u8 : Elem Try.prog 27 5 1 1 := by
  obtain ⟨i, hi, h0, h1, h2⟩ := info_parts info_u8
  exact ⟨Try.underlying27, ⟨i, _, hi, h0, h1, h2, rfl⟩, by decide⟩
/-- A row of bytes of the call's own. -/
abbrev OwnB (w : World) (B : Nat) (v : Value) (xs : List UInt8) : Prop := Own kU8 5 w B (fun _ => False) v xs

/-- What is appended to a row that was handed over: the row is handed back. -/
def Appended (w : World) (B : Nat) (v : Value) (xs ys : List UInt8) (e : Ending) (w' : World) : Prop :=
  ∃ v', e = .returned v' ∧ OwnB w' B v' (xs ++ ys) ∧ w.grownBy w' v.ownBlock ∧ At w v v'

theorem or128_fin : ∀ x : Fin 256, bits .or .u8 (x.val : Int) 128 = ((x.val % 128 + 128 : Nat) : Int) := by decide +kernel
theorem or128 (m : Nat) : bits .or .u8 ((m : Int) % 256) 128 = ((m % 128 + 128 : Nat) : Int) := by
  have h := or128_fin ⟨m % 256, Nat.mod_lt _ (by decide)⟩
  have e : ((m : Int) % 256) = ((m % 256 : Nat) : Int) := by omega
  rw [e]
  refine h.trans ?_
  show ((m % 256 % 128 + 128 : Nat) : Int) = _
  omega

set_option maxRecDepth 100000 in
set_option maxHeartbeats 1000000 in
theorem numeral_calls {w : World} {B : Nat} {v : Value} {xs : List UInt8} {u : Nat} (h : OwnB w B v xs) (hu : u < 18446744073709551616) (hx : xs.length ≤ 70368744177664) (hB : B ≤ w.heap.size) :
    Calls Try.prog 38 #[v, .int .u64 u] w (Appended w B v xs (numeral u)) := by
  have Hu := Lib.hid hu
  have Hx := Lib.hid hx
  clear hu hx
  go_enter Try.func38, Try.ntmps38
  go_upto_region 1 with fail
  go_loopw [0, 1] (fun v' u' wr => ∃ (pre : List UInt8) (m : Nat), u' = .int .u64 m ∧ Hid (m < 18446744073709551616) ∧ Hid (numeral u = pre ++ numeral m) ∧ OwnB wr B v' (xs ++ pre) ∧ w.grownBy wr v.ownBlock ∧ At w v v') (fun _ u' _ => (intOf u').toNat)
  case atStart => exact ⟨[], u, rfl, Hu, rfl, by simpa using h, World.grownBy.refl _ _, At.refl⟩
  case round =>
    obtain ⟨pre, m, rfl, hm, hnum, hown, hg, hat⟩ := hrel
    have HG := Lib.hid hg
    have HA := Lib.hid hat
    have HO := Lib.hid hown
    clear hg hat hown
    have HL : Hid (((xs ++ pre).length + 1) * 1 ≤ 140737488355328) := by
      have h1 := numeral_le10 Hu.out
      rw [hnum.out, List.length_append] at h1
      have h2 := Hx.out
      show ((xs ++ pre).length + 1) * 1 ≤ 140737488355328
      rw [List.length_append]
      omega
    have HS : Hid (B ≤ wr.heap.size) := Nat.le_trans hB HG.out.size
    by_cases hlt : m < 128
    · have k1 : ∀ W F, kU8.K W F (UInt8.ofNat m) [.int .u8 m] := fun _ _ => by
        show [Value.int .u8 (m : Int)] = [Value.int .u8 ((UInt8.ofNat m).toNat : Int)]
        rw [UInt8.toNat_ofNat_of_lt' (by show m < 256; omega)]
      have K1 := Lib.hid k1
      clear k1
      go_wp2_with (at_builtin; refine wpList_app1 rfl (.tmp 15) (.tmp 18) _ rfl E_u8 (UInt8.ofNat m) [.int .u8 m] (HO.out.below ((Below.refl _ _).alloc (Nat.le_refl _) _)) rfl ⟨wr.heap.size, 0, none⟩ 1 rfl (K1.out _ _) (cell_new1 _ _ _) (fun _ h => h.elim) HL.out (by decide) (by rw [World.size_alloc]; exact Nat.le_succ_of_le HS.out) ?_; intro v' w1 hown' hgrow hat')
      go_ret
      refine ⟨v', rfl, ?_, grown_next HG.out HA.out ((Below.refl _ _).alloc (Nat.le_refl _) _) hgrow, at_next HG.out ((Below.refl _ _).alloc (Nat.le_refl _) _) HA.out hat'⟩
      rw [hnum.out, numeral_lt hlt, ← List.append_assoc]
      exact hown'
    · have k1 : ∀ W F, kU8.K W F (UInt8.ofNat (m % 128 + 128)) [.int .u8 (bits .or .u8 ((m : Int) % 256) 128)] := fun _ _ => by
        show [Value.int .u8 (bits .or .u8 ((m : Int) % 256) 128)] = [Value.int .u8 ((UInt8.ofNat (m % 128 + 128)).toNat : Int)]
        rw [UInt8.toNat_ofNat_of_lt' (by show m % 128 + 128 < 256; omega), or128 m]
      have K1 := Lib.hid k1
      clear k1
      go_wp2_with (at_builtin; refine wpList_app1 rfl (.tmp 9) (.tmp 13) _ rfl E_u8 (UInt8.ofNat (m % 128 + 128)) [.int .u8 (bits .or .u8 ((m : Int) % 256) 128)] (HO.out.below ((Below.refl _ _).alloc (Nat.le_refl _) _)) rfl ⟨wr.heap.size, 0, none⟩ 1 rfl (K1.out _ _) (cell_new1 _ _ _) (fun _ h => h.elim) HL.out (by decide) (by rw [World.size_alloc]; exact Nat.le_succ_of_le HS.out) ?_; intro v' w1 hown' hgrow hat')
      go_roundw
      case rel =>
        refine ⟨pre ++ [UInt8.ofNat (m % 128 + 128)], m / 128, by go_num, ?_, ?_, ?_, grown_next HG.out HA.out ((Below.refl _ _).alloc (Nat.le_refl _) _) hgrow, at_next HG.out ((Below.refl _ _).alloc (Nat.le_refl _) _) HA.out hat'⟩
        · exact Nat.lt_of_le_of_lt (Nat.div_le_self _ _) hm.out
        · show numeral u = _
          rw [hnum.out, numeral_ge (by omega), List.append_assoc]
          rfl
        · rw [← List.append_assoc]
          exact hown'
      case measure => simp [intOf]; omega
end Go.Proofs.Ytpmokmhakdkpdaa.B
