import Derived.Test.YtpmokmhakdkpdaaRValueA
import Derived.Test.YtpmokmhakdkpdaaEncPure
import Derived.Deep.LoopGhost
import Derived.Deep.DeepCutAuto
namespace Go.Proofs.Ytpmokmhakdkpdaa.B
open Go.RowKit

mutual
/-- How many parts a value has. -/
def Val.total : Val → Nat
  | ⟨_, _, s, l⟩ => 1 + s.size / 200 + totalL l
def totalL : List Val → Nat
  | [] => 0
  | x :: r => x.total + totalL r
end
theorem totalL_append (a b : List Val) : totalL (a ++ b) = totalL a + totalL b := by
  induction a with
  | nil => simp [totalL]
  | cons x r ih => simp only [List.cons_append, totalL, ih]; omega
theorem totalL_take {l : List Val} {k : Nat} (h : k < l.length) : totalL (l.take (k + 1)) = totalL (l.take k) + l[k].total := by
  rw [take_snoc l h, totalL_append]
  simp [totalL]
/-- Small: few parts, not deep. -/
def Small (v : Val) (n d : Nat) : Prop := v.total ≤ n ∧ v.depth ≤ d

def CountR (v : Val) (d : Int) (w : World) (e : Ending) (w' : World) : Prop :=
  ∃ n : Nat, e = .returned (.int .i64 n) ∧ n ≤ 47000000000000000 + 1000 * (d + 1).toNat ∧ (n ≤ 999 → 0 ≤ d ∧ Small v n (d.toNat + 1)) ∧ Below w.heap.size w w'

set_option maxRecDepth 100000 in
set_option maxHeartbeats 2000000 in
/-- The reference's count. -/
theorem count_calls : ∀ (v : Val) (d : Int) (w : World) (F : Foot) (cs : List Value), -1 ≤ d → d ≤ 100 → kVal.K w F v cs → Calls Try.prog 36 #[.agg cs.toArray, .int .i64 d] w (CountR v d w) := by
  refine Val.ind (fun v ih => ?_)
  intro d w F cs hd1 hd2 h
  obtain ⟨A, c, rfl, _, _, hsz, hl⟩ := kVal_open h
  clear h
  have hll := Nat.le_trans hl.le hl.max
  unfold maxLen at hll hsz
  obtain ⟨k, n, s, l⟩ := v
  simp only at hl hll hsz ih ⊢
  have HL := Lib.hid hl
  have HIH := Lib.hid ih
  clear hl ih
  have HV := Lib.hid (VC.new w k n s (.slice A l.length c))
  by_cases hd : d < 0
  · go_enter Try.func36, Try.ntmps36
    go_wp2
    go_ret
    exact ⟨1000, rfl, by omega, by omega, by (with_reducible repeat (first | exact Below.refl _ _ | assumption | refine below_drew ?_ | refine below_drewN ?_ _ | refine below_box ?_ _))⟩
  · by_cases hm : 150 < l.length
    · go_enter Try.func36, Try.ntmps36
      go_wp2
      go_ret
      exact ⟨1000, rfl, by omega, by omega, by (with_reducible repeat (first | exact Below.refl _ _ | assumption | refine below_drew ?_ | refine below_drewN ?_ _ | refine below_box ?_ _))⟩
    · go_enter Try.func36, Try.ntmps36
      go_upto_region 5 with fail
      go_loopw [5, 6] (fun n' i' wr => ∃ (i m : Nat), i' = .int .i64 i ∧ n' = .int .i64 m ∧ i ≤ l.length ∧ m ≤ 47000000000000000 + 1000 * d.toNat + 1000 ∧ Hid (m ≤ 1000 → 1 + s.size / 200 + totalL (l.take i) ≤ m ∧ ∀ x ∈ l.take i, x.depth ≤ d.toNat) ∧ Hid (VC wr w.heap.size k n s (.slice A l.length c)) ∧ Below w.heap.size w wr) (fun _ i' _ => l.length - (intOf i').toNat)
      case atStart => exact ⟨0, 1 + s.size / 200, rfl, by go_num, Nat.zero_le _, by omega, Lib.hid (fun _ => ⟨by simp [totalL], by simp⟩), HV, by (with_reducible repeat (first | exact Below.refl _ _ | assumption | refine below_drew ?_ | refine below_drewN ?_ _ | refine below_box ?_ _))⟩
      case round =>
        obtain ⟨i, m, rfl, rfl, hi, hmm, hrel, hvc, hb⟩ := hrel
        clear HV
        obtain ⟨⟨f1, f2, f3, f4⟩, _⟩ := hvc.out.facts
        by_cases hin : i < l.length
        · by_cases hm1 : m ≤ 1000
          · obtain ⟨ad, A1, c1, rfl, g0, g1, g2, g3, hK⟩ := val_at (HL.out.below hb) hin
            have HK := Lib.hid hK
            clear hK
            go_wp2_with (go_at_call 36; refine (HIH.out _ (List.getElem_mem hin) (d - 1) _ F _ (by omega) (by omega) (Kd.below HK.out (by (with_reducible repeat (first | exact Below.refl _ _ | assumption | refine below_drew ?_ | refine below_drewN ?_ _ | refine below_box ?_ _))))).mono ?_; rintro e w1 ⟨m2, rfl, hm2, hsm, hb1⟩)
            have hrel' := hrel.out hm1
            refine ⟨⟨i + 1, m + m2, by go_num, by go_num, by omega, by omega, Lib.hid (fun h => ?_), hvc.out.below hb1, below_then hb hb1⟩, by simp [intOf]; omega⟩
            obtain ⟨h0, h1, h2⟩ := hsm (by omega)
            refine ⟨by rw [totalL_take hin]; omega, fun x hx => ?_⟩
            rw [take_snoc l hin] at hx
            rcases List.mem_append.1 hx with hx | hx
            · exact hrel'.2 x hx
            · rw [List.mem_singleton.1 hx]
              omega
          · go_wp2
            go_ret
            exact ⟨m, rfl, by omega, fun h => absurd h (by omega), hb⟩
        · obtain rfl : i = l.length := by omega
          have hR := hrel.out
          rw [List.take_length] at hR
          have HR := Lib.hid hR
          clear hR hrel
          go_wp2
          go_ret
          refine ⟨m, rfl, by omega, fun h => ⟨by omega, ?_⟩, hb⟩
          obtain ⟨h1, h2⟩ := HR.out (by omega)
          refine ⟨by simpa [Val.total] using h1, ?_⟩
          simp only [Val.depth]
          split
          · exact Nat.succ_le_succ (depthL_le.2 h2)
          · exact Nat.zero_le _

set_option maxRecDepth 100000 in
set_option maxHeartbeats 1000000 in
/-- The reference's Few(v, 20): true only of small values. -/
theorem Few_calls {v : Val} {w : World} {F : Foot} {cs : List Value} (h : kVal.K w F v cs) : Calls Try.prog 25 #[.agg cs.toArray, .int .i64 20] w fun e w' => ∃ b, e = .returned (.bool b) ∧ (b = true → Small v 200 21) ∧ Below w.heap.size w w' := by
  have H := Lib.hid h
  obtain ⟨A, c, rfl, _, _, _, _⟩ := kVal_open h
  clear h
  go_enter Try.func25, Try.ntmps25
  go_wp2_with (go_at_call 36; refine (count_calls v 20 _ F _ (by omega) (by omega) (Kd.below H.out (by (with_reducible repeat (first | exact Below.refl _ _ | assumption | refine below_drew ?_ | refine below_drewN ?_ _ | refine below_box ?_ _))))).mono ?_; rintro e w1 ⟨m, rfl, hm, hsm, hb1⟩)
  go_ret
  refine ⟨_, rfl, fun hb => ?_, below_then (by (with_reducible repeat (first | exact Below.refl _ _ | assumption | refine below_drew ?_ | refine below_drewN ?_ _ | refine below_box ?_ _))) hb1⟩
  have hm2 : (m : Int) ≤ 200 := by simpa using hb
  obtain ⟨_, h1, h2⟩ := hsm (by omega)
  exact ⟨by omega, h2⟩

set_option maxRecDepth 100000 in
set_option maxHeartbeats 1000000 in
/-- few(vs..): true only of small values. -/
theorem few_calls {vs : List Val} {w : World} {F : Foot} {A : Option Addr} {c : Nat} (h : SL kVal w F A c vs) : Calls Try.prog 11 #[.slice A vs.length c] w fun e w' => ∃ b, e = .returned (.bool b) ∧ (b = true → ∀ v ∈ vs, Small v 200 21) ∧ Below w.heap.size w w' := by
  have hll := Nat.le_trans h.le h.max
  unfold maxLen at hll
  have HS := Lib.hid h
  clear h
  go_enter Try.func11, Try.ntmps11
  go_upto_region 2 with fail
  go_loopw [7] (fun i' wr => ∃ i : Nat, i' = .int .i64 i ∧ i ≤ vs.length ∧ Hid (∀ v ∈ vs.take i, Small v 200 21) ∧ Below w.heap.size w wr) (fun i' _ => vs.length - (intOf i').toNat)
  case atStart => exact ⟨0, rfl, Nat.zero_le _, Lib.hid (by simp), Below.refl _ _⟩
  case round =>
    obtain ⟨i, rfl, hi, hsm, hb⟩ := hrel
    by_cases hin : i < vs.length
    · obtain ⟨ad, A1, c1, rfl, g0, g1, g2, g3, hK⟩ := val_at (HS.out.below hb) hin
      have HK := Lib.hid hK
      clear hK
      go_wp2_with (go_at_call 25; refine (Few_calls (F := F) (v := vs[i]) (Kd.below HK.out (by (with_reducible repeat (first | exact Below.refl _ _ | assumption | refine below_drew ?_ | refine below_drewN ?_ _ | refine below_box ?_ _))))).mono ?_; rintro e w1 ⟨b, rfl, hbs, hb1⟩; cases b)
      · go_ret
        exact ⟨false, rfl, (fun h => by cases h), below_then (by (with_reducible repeat (first | exact Below.refl _ _ | assumption | refine below_drew ?_ | refine below_drewN ?_ _ | refine below_box ?_ _))) hb1⟩
      · go_roundw
        case rel =>
          refine ⟨i + 1, by go_num, by omega, Lib.hid (fun v hv => ?_), below_then (by (with_reducible repeat (first | exact Below.refl _ _ | assumption | refine below_drew ?_ | refine below_drewN ?_ _ | refine below_box ?_ _))) hb1⟩
          rw [take_snoc vs hin] at hv
          rcases List.mem_append.1 hv with hv | hv
          · exact hsm.out v hv
          · rw [List.mem_singleton.1 hv]; exact hbs trivial
        case measure => simp [intOf]; omega
    · obtain rfl : i = vs.length := by omega
      go_wp2
      go_ret
      exact ⟨true, rfl, fun _ => by have := hsm.out; rwa [List.take_length] at this, hb⟩
end Go.Proofs.Ytpmokmhakdkpdaa.B
