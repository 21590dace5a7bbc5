import Derived.Test.YtpmokmhakdkpdaaVal
import Derived.Test.YtpmokmhakdkpdaaCodecPure
import Derived.Test.YtpmokmhakdkpdaaProg
import Derived.Deep.LoopGhost
import Derived.Deep.DeepCutAuto
namespace Go.Proofs.Ytpmokmhakdkpdaa.B
open Go.RowKit

/-- Are two values equal? -/
noncomputable def sameM {α : Type} (a b : α) : Bool := @decide (a = b) (Classical.propDecidable _)
theorem sameM_eq {α : Type} {a b : α} (h : a = b) : sameM a b = true := by unfold sameM; exact @decide_eq_true _ (Classical.propDecidable _) h
theorem sameM_ne {α : Type} {a b : α} (h : a ≠ b) : sameM a b = false := by unfold sameM; exact @decide_eq_false _ (Classical.propDecidable _) h
theorem sameM_iff {α : Type} {a b : α} : sameM a b = true ↔ a = b := by
  by_cases h : a = b
  · exact ⟨fun _ => h, sameM_eq⟩
  · rw [sameM_ne h]; exact ⟨fun h => (by cases h), fun e => absurd e h⟩
def SameR {α : Type} (a b : α) (w : World) (e : Ending) (w' : World) : Prop := e = .returned (.bool (sameM a b)) ∧ Below w.heap.size w w'

set_option maxRecDepth 100000 in
set_option maxHeartbeats 1000000 in
theorem equalFunc_calls {w : World} {F F' : Foot} {A A' : Option Addr} {c c' : Nat} {l l' : List Val} (h : SL kVal w F A c l) (h' : SL kVal w F' A' c' l')
    (ih : ∀ x ∈ l, ∀ (y : Val) (w : World) (F F' : Foot) (cs ds : List Value), kVal.K w F x cs → kVal.K w F' y ds → Calls Try.prog 21 #[.agg cs.toArray, .agg ds.toArray] w (SameR x y w)) :
    Calls Try.prog 35 #[.slice A l.length c, .slice A' l'.length c', .func (.func 21) #[] #[]] w (SameR l l' w) := by
  have hll := Nat.le_trans h.le h.max
  have hll' := Nat.le_trans h'.le h'.max
  unfold maxLen at hll hll'
  have H := Lib.hid h
  have H' := Lib.hid h'
  clear h h'
  by_cases hlen : l.length = l'.length
  · rw [← hlen] at hll' ⊢
    have HL := Lib.hid hlen
    clear hlen
    go_enter Try.func35, Try.ntmps35
    go_upto_region 4 with fail
    go_loopw [17] (fun i' wr => ∃ i : Nat, i' = .int .i64 i ∧ i ≤ l.length ∧ Hid (l.take i = l'.take i) ∧ Below w.heap.size w wr) (fun i' _ => l.length - (intOf i').toNat)
    case atStart => exact ⟨0, rfl, Nat.zero_le _, rfl, Below.refl _ _⟩
    case round =>
      obtain ⟨i, rfl, hi, htk, hb⟩ := hrel
      by_cases hin : i < l.length
      · have hin' : i < l'.length := by have := HL.out; omega
        obtain ⟨ad, A1, c1, rfl, h0, h1, h2, h3, hK⟩ := val_at (H.out.below hb) hin
        obtain ⟨ad', A1', c1', rfl, h0', h1', h2', h3', hK'⟩ := val_at (H'.out.below (below_box hb (.cells #[.int .i64 l[i].kind, .int .i64 l[i].n, .string l[i].s, .slice A1 l[i].l.length c1] 24))) hin'
        have HK := Lib.hid hK
        have HK' := Lib.hid hK'
        clear hK hK'
        by_cases hxy : l[i] = l'[i]
        · have hs : Hid (sameM l[i] l'[i] = true) := sameM_eq hxy
          have HXY := Lib.hid hxy
          clear hxy
          go_wp2_with (go_at_call 21; refine (ih _ (List.getElem_mem hin) l'[i] _ F F' _ _ (Kd.below HK.out (by (with_reducible repeat (first | exact Below.refl _ _ | assumption | refine below_drew ?_ | refine below_drewN ?_ _ | refine below_box ?_ _)))) (Kd.below HK'.out (by (with_reducible repeat (first | exact Below.refl _ _ | assumption | refine below_drew ?_ | refine below_drewN ?_ _ | refine below_box ?_ _))))).mono ?_; unfold SameR; rw [hs.out]; rintro e w1 ⟨rfl, hb1⟩)
          go_roundw
          case rel =>
            exact ⟨i + 1, by go_num, by omega, by rw [take_snoc l hin, take_snoc l' hin', htk.out, HXY.out]; rfl, below_then (by (with_reducible repeat (first | exact Below.refl _ _ | assumption | refine below_drew ?_ | refine below_drewN ?_ _ | refine below_box ?_ _))) hb1⟩
          case measure => simp [intOf]; omega
        · have hs : Hid (sameM l[i] l'[i] = false) := sameM_ne hxy
          have hsl : Hid (sameM l l' = false) := sameM_ne (fun e => hxy (by subst e; rfl))
          clear hxy
          go_wp2_with (go_at_call 21; refine (ih _ (List.getElem_mem hin) l'[i] _ F F' _ _ (Kd.below HK.out (by (with_reducible repeat (first | exact Below.refl _ _ | assumption | refine below_drew ?_ | refine below_drewN ?_ _ | refine below_box ?_ _)))) (Kd.below HK'.out (by (with_reducible repeat (first | exact Below.refl _ _ | assumption | refine below_drew ?_ | refine below_drewN ?_ _ | refine below_box ?_ _))))).mono ?_; unfold SameR; rw [hs.out]; rintro e w1 ⟨rfl, hb1⟩)
          go_ret
          exact ⟨by rw [hsl.out]; rfl, below_then (by (with_reducible repeat (first | exact Below.refl _ _ | assumption | refine below_drew ?_ | refine below_drewN ?_ _ | refine below_box ?_ _))) hb1⟩
      · obtain rfl : i = l.length := by omega
        have hs : Hid (sameM l l' = true) := sameM_eq (by have := htk.out; rwa [List.take_length, HL.out, List.take_length] at this)
        go_wp2
        go_ret
        exact ⟨by rw [hs.out]; rfl, hb⟩
  · have hne : Hid (sameM l l' = false) := sameM_ne (fun e => hlen (by rw [e]))
    go_enter Try.func35, Try.ntmps35
    go_wp2
    go_ret
    exact ⟨by rw [hne.out]; rfl, Below.refl _ _⟩
end Go.Proofs.Ytpmokmhakdkpdaa.B
