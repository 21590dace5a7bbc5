import Derived.Test.YtmcdimcjmafaoaaDiskO
import Derived.Laws.Bits64b
namespace Go.Proofs.Ytmcdimcjmafaoaa.B
set_option linter.unusedVariables false
set_option linter.unusedSimpArgs false
open Go.RowKit

theorem wrapu {m : Nat} (h : m < 18446744073709551616) : IntKind.u64.wrap (m : Int) = (m : Int) := by rw [IntKind.wrap_u64]; omega
theorem and32 {m : Nat} (hm : m ≤ 4096) : bits .and .u64 (m : Int) 4294967295 = (m : Int) := by
  have h := bits_and_u64_nat m 4294967295 (by omega) (by decide)
  have e : m &&& 4294967295 = m := by
    have := Nat.and_two_pow_sub_one_eq_mod m 32
    rw [show (2 : Nat) ^ 32 - 1 = 4294967295 from rfl] at this
    rw [this]
    exact Nat.mod_eq_of_lt (by omega)
  rw [e] at h
  exact h
set_option maxRecDepth 100000 in
set_option maxHeartbeats 1000000 in
theorem mul64_calls {m : Nat} {w : World} (hm : m ≤ 4096) : Calls Try.prog 48 #[.int .u64 1, .int .u64 m] w fun e w' => e = .returned (.tuple #[.int .u64 0, .int .u64 m]) ∧ w' = w := by
  have b0 : bits .and .u64 0 4294967295 = 0 := and32 (m := 0) (by omega)
  have b1 : bits .and .u64 1 4294967295 = 1 := and32 (m := 1) (by omega)
  have b2 := and32 hm
  have e1 : ((m : Int)) / 4294967296 = 0 := by omega
  have e2 : IntKind.u64.wrap (m : Int) = (m : Int) := wrapu (by omega)
  have e3 : IntKind.u64.wrap 0 = 0 := wrapu (m := 0) (by decide)
  go_enter Try.func48, Try.ntmps48
  go_wp2
  go_ret2
  refine ⟨?_, rfl⟩
  simp [b0, b1, b2, e1, e2, e3]
set_option maxRecDepth 100000 in
theorem mul_calls {m : Nat} {w : World} (hm : m ≤ 4096) : Calls Try.prog 42 #[.int .u64 1, .int .u64 m] w fun e w' => e = .returned (.tuple #[.int .u64 0, .int .u64 m]) ∧ w' = w := by
  go_enter Try.func42, Try.ntmps42
  go_wp2_with fail
  refine (mul64_calls hm).mono ?_
  rintro e w1 ⟨rfl, rfl⟩
  go_wp2
  go_ret2
  exact ⟨rfl, rfl⟩
theorem made_rep (z : Value) (n : Nat) : madeCells #[z] n = (List.replicate n z).toArray := by
  apply Array.ext'
  simp only [madeCells]
  rw [List.toList_toArray]
  simp
  rw [List.eq_replicate_iff]
  refine ⟨by simp, fun b hb => ?_⟩
  obtain ⟨i, _, rfl⟩ := List.mem_map.1 hb
  simp [Nat.mod_one]
theorem makeS (w : World) (m : Nat) (hm : m ≤ 4096) : (Instr.makeSlice 22 (.int .i64 m) (.int .i64 m)).run Try.prog w = .ok (.slice (some ⟨w.heap.size, 0, none⟩) m m) (w.alloc (.cells (List.replicate m (.slice none 0 0)).toArray 35)) := by
  obtain ⟨i, hi, h0, h1, h2⟩ := info_parts info_bytes
  have := run_make (P := Try.prog) w 22 35 i _ Try.underlying22 hi h0 .i64 .i64 m m (by omega) (Int.le_refl _) (by rw [h2]; omega) (by omega)
  rw [this, h1, show ((m : Int)).toNat = m by omega, Nat.mul_one]
  have e : madeCells (Value.slice none 0 0).cells m = (List.replicate m (.slice none 0 0)).toArray := made_rep _ m
  rw [e]
/-- Half filled. -/
def halfRow (v : Value) (k m : Nat) : List Value := List.replicate k v ++ List.replicate (m - k) (.slice none 0 0)
theorem half0 (v : Value) {m : Nat} (hm : 1 ≤ m) : splice (List.replicate m (Value.slice none 0 0)) 0 [v] = halfRow v 1 m := by
  unfold splice halfRow
  simp
theorem halfD (v : Value) {k j m : Nat} (hk : k ≤ m) (hj : j ≤ m - k) : splice (halfRow v k m) k (List.replicate j v) = halfRow v (k + j) m := by
  unfold splice halfRow
  rw [List.take_append_of_le_length (by simp), List.take_of_length_le (by simp), List.length_replicate, ← List.append_assoc, List.replicate_append_replicate]
  congr 1
  rw [List.drop_append, List.drop_eq_nil_of_le (by simp), List.nil_append, List.length_replicate, List.drop_replicate]
  congr 1
  omega
theorem half_full (v : Value) (m : Nat) : halfRow v m m = List.replicate m v := by unfold halfRow; simp
def RepR (m : Nat) (v : Value) (w : World) (e : Ending) (w' : World) : Prop := ∃ g, e = .returned (.slice (some ⟨g, 0, none⟩) m m) ∧ w.heap.size ≤ g ∧ Hid (w'.heap[g]? = some (.cells (List.replicate m v).toArray 35 (0, 0))) ∧ Below w.heap.size w w'
set_option maxRecDepth 100000 in
set_option maxHeartbeats 600000 in
theorem repeat_calls {m : Nat} {w : World} {ad ax : Addr} {n c : Nat} (h1 : 1 ≤ m) (hm : m ≤ 4096) (hc : w.cell? ad = some (.slice (some ax) n c)) : Calls Try.prog 29 #[.slice (some ad) 1 1, .int .i64 m] w (RepR m (.slice (some ax) n c) w) := by
  obtain ⟨v, hv⟩ : ∃ v, v = Value.slice (some ax) n c := ⟨_, rfl⟩
  have hv1 : ∀ u ∈ [v], u.oneCell' = true := by intro u hu; rw [List.mem_singleton.1 hu, hv]; rfl
  rw [← hv] at hc ⊢
  clear hv
  have hmk := fun w => makeS w m hm
  have e2 : IntKind.u64.wrap (m : Int) = (m : Int) := wrapu (by omega)
  obtain ⟨L0, hL0⟩ : ∃ L : List Value, L = List.replicate m (Value.slice none 0 0) := ⟨_, rfl⟩
  rw [← hL0] at hmk
  have HL0 := Lib.hid hL0
  have HC := Lib.hid hc
  have HV1 := Lib.hid hv1
  clear hL0 hc hv1
  go_enter Try.func29, Try.ntmps29
  go_wp2_with fail
  refine (mul_calls hm).mono ?_
  rintro e w1 ⟨rfl, rfl⟩
  have HF0 : Hid (0 + [v].length ≤ L0.length) := by show _ ≤ _; rw [HL0.out, List.length_replicate]; exact h1
  have HN0 : Hid ([v].length = Nat.min 1 m) := by show _ = _; exact (Nat.min_eq_left h1).symm
  have HP0 : Hid (∀ j u, [v][j]? = some u → (w1.alloc (.cells L0.toArray 35)).cell? (ad.add j) = some u) := fun j u hu => by
    cases j with
    | zero =>
      injection hu with hu
      subst hu
      have : ad.add 0 = ad := by simp [Addr.add]
      rw [this]
      exact keepcell (below_box (Below.refl _ _) _) HC.out
    | succ j => cases hu
  go_wp2_with (refine wpList_copy_splice (o := ⟨some 33, _, _, _, _, _⟩) rfl (.tmp 31) (.tmp 32) _ _ rfl 35 Try.underlying22 (by kernel_rfl) _ _ _ _ _ _ rfl rfl w1.heap.size 0 L0 35 (Blk.new w1 35 L0) [v] HN0.out (fun _ => ⟨rfl, ad, rfl, HP0.out⟩) HF0.out HV1.out w1.heap.size w1 (below_box (Below.refl _ _) _) (Nat.le_refl _) ?_; intro w3 hg3 hb3)
  have HG0 : Hid (w3.heap[w1.heap.size]? = some (.cells (halfRow v 1 m).toArray 35 (0, 0))) := by
    have h := hg3.out
    rw [HL0.out, half0 v h1] at h
    exact h
  have HB0 := Lib.hid hb3
  clear hg3 hb3 HP0 HF0 HN0 hmk e2
  go_loopw [8] (fun k' wr => ∃ k : Nat, k' = .int .i64 k ∧ 1 ≤ k ∧ k ≤ m ∧ Hid (wr.heap[w1.heap.size]? = some (.cells (halfRow v k m).toArray 35 (0, 0))) ∧ Hid (Below w1.heap.size w1 wr)) (fun k' _ => m - (intOf k').toNat)
  case atStart => exact ⟨1, rfl, Nat.le_refl _, h1, HG0, HB0⟩
  case round =>
    obtain ⟨k, rfl, k1, k2, hg, hb⟩ := hrel
    clear HG0 HB0
    by_cases hin : k < m
    · obtain ⟨j, hj⟩ : ∃ j, j = Nat.min k (m - k) := ⟨_, rfl⟩
      have hj1 : 1 ≤ j := by rw [hj]; exact Nat.le_min.2 ⟨k1, by omega⟩
      have hj2 : j ≤ k := by rw [hj]; exact Nat.min_le_left _ _
      have hj3 : j ≤ m - k := by rw [hj]; exact Nat.min_le_right _ _
      obtain ⟨X, hX⟩ : ∃ X, X = List.replicate j v := ⟨_, rfl⟩
      have hXl : X.length = j := by rw [hX, List.length_replicate]
      have HX := Lib.hid hX
      have HNN : Hid (X.length = Nat.min k (m - k)) := by show _ = _; rw [hXl, hj]
      have HFIT : Hid (k + X.length ≤ (halfRow v k m).length) := by show _ ≤ _; rw [hXl]; unfold halfRow; simp; omega
      have HONE : Hid (∀ u ∈ X, u.oneCell' = true) := fun u hu => HV1.out u (by rw [hX] at hu; rw [(List.mem_replicate.1 hu).2]; exact List.mem_singleton.2 rfl)
      have HSRC : Hid (∀ i u, X[i]? = some u → wr.drew.cell? ((⟨w1.heap.size, 0, none⟩ : Addr).add i) = some u) := fun i u hu => by
        have hc := Blk.cells0 (w := wr) (cs := halfRow v k m) hg.out
        refine hc i u ?_
        rw [hX] at hu
        have hi : i < j := by
          have := (List.getElem?_eq_some_iff.1 hu).1
          simpa using this
        unfold halfRow
        rw [List.getElem?_append_left (by simp; omega)]
        rw [List.getElem?_replicate] at hu ⊢
        rw [if_pos hi] at hu
        rw [if_pos (by omega)]
        exact hu
      have hwr : IntKind.i64.wrap ((k : Int) + (X.length : Int)) = (k : Int) + (X.length : Int) := IntWalk.i64_in _ (by omega)
      have HJ := Lib.hid hj
      clear hX hj
      go_wp2_with fail
      have hbk : (k : Int) ≤ (m : Int) := by omega
      have KEEP1 := Lib.hid (below_drew hb.out)
      go_region_held3 (fun w' : World => Below w1.heap.size w1 w') (first | exact KEEP1.out | exact hb4 | assumption) (first | (go_loud (refine step_copy_splice (w := wr.drew) (o := ⟨some 45, _, _, _, _, _⟩) rfl (.tmp 41) (.tmp 44) _ _ rfl 35 Try.underlying22 (by kernel_rfl) _ _ _ _ _ _ rfl rfl w1.heap.size k (halfRow v k m) 35 hg.out X HNN.out (fun _ => ⟨(by first | rfl | rw [if_neg (by omega)]), ⟨w1.heap.size, 0, none⟩, rfl, HSRC.out⟩) HFIT.out HONE.out w1.heap.size w1 (below_drew hb.out) (Nat.le_refl _) ?_); intro w4 hg4 hb4))
      have HG4 : Hid (w4.heap[w1.heap.size]? = some (.cells (halfRow v (k + j) m).toArray 35 (0, 0))) := by
        have h := hg4.out
        rw [HX.out, halfD v k2 hj3] at h
        exact h
      have HB4 := Lib.hid hb4
      rw [hXl] at hwr ⊢
      clear hg4 hb4
      go_wp2
      go_roundw
      case rel => exact ⟨k + j, by go_num, by omega, by omega, HG4, HB4⟩
      case measure => simp [intOf]; omega
    · obtain rfl : k = m := by omega
      go_wp2
      go_ret
      refine ⟨w1.heap.size, rfl, Nat.le_refl _, ?_, hb.out⟩
      have h := hg.out
      rw [half_full] at h
      exact h
end Go.Proofs.Ytmcdimcjmafaoaa.B
