import Derived.Test.YtmcdimcjmafaoaaDiskA
namespace Go.Proofs.Ytmcdimcjmafaoaa.B
set_option linter.unusedVariables false
set_option linter.unusedSimpArgs false
open Go.RowKit

/-- An index, or -1: not below 0 just where something has been found. -/
def IndexR (b : Bool) (w : World) (e : Ending) (w' : World) : Prop := ∃ n : Int, e = .returned (.int .i64 n) ∧ decide (0 ≤ n) = b ∧ Below w.heap.size w w'
theorem any_take {α : Type} {xs : List α} {p : α → Bool} {i : Nat} (hi : i < xs.length) (h : (xs.take i).any p = false) (hp : p xs[i] = false) : (xs.take (i + 1)).any p = false := by
  rw [List.take_succ_eq_append_getElem hi, List.any_append, h]; simp [hp]
theorem any_at {α : Type} {xs : List α} {p : α → Bool} {i : Nat} (hi : i < xs.length) (hp : p xs[i] = true) : xs.any p = true := List.any_eq_true.2 ⟨xs[i], List.getElem_mem hi, hp⟩

set_option maxRecDepth 100000 in
set_option maxHeartbeats 2000000 in
/-- slices.IndexFunc over writes, by Check's first closure. -/
theorem indexW_calls {w : World} {A : Option Addr} {c n g : Nat} {xs : List Wr} (h : SL kWr w (Old w) A c xs) (hn : w.cell? ⟨g, 0, none⟩ = some (.int .i64 n)) :
    Calls Try.prog 43 #[.slice A xs.length c, .func (.func 30) #[] #[.pointer (some ⟨g, 0, none⟩)]] w (IndexR (xs.any fun x => !okWr n x) w) := by
  have hll := Nat.le_trans h.le h.max
  unfold maxLen at hll
  have HS := Lib.hid h
  have HN := Lib.hid hn
  clear h hn
  go_enter Try.func43, Try.ntmps43
  go_wp2_with fail
  go_loopw [8] (fun i' wr => ∃ i : Nat, i' = .int .i64 i ∧ i ≤ xs.length ∧ Hid ((xs.take i).any (fun x => !okWr n x) = false) ∧ Below w.heap.size w wr) (fun i' _ => xs.length - (intOf i').toNat)
  case atStart => exact ⟨0, rfl, Nat.zero_le _, rfl, Below.refl _ _⟩
  case round =>
    obtain ⟨i, rfl, hi, hno, hb⟩ := hrel
    by_cases hin : i < xs.length
    · obtain ⟨ad, A1, c1, rfl, f0, f1, hp, hs⟩ := wr_at (HS.out.old hb) hin
      have hC := badWrite_calls (w := wr) (A := A1) (c := c1) (n := n) (g := g) (x := xs[i]) ((hb.cell (World.block_lt_of_cell? w _ HN.out)).trans HN.out) hp
      cases hk : okWr n xs[i]
      · rw [hk] at hC
        have HC := Lib.hid hC
        have HX : Hid (xs.any (fun x => !okWr n x) = true) := any_at hin (by rw [hk]; rfl)
        clear hC hk hp hs
        go_wp2_with fail
        refine HC.out.mono ?_
        rintro e w1 ⟨rfl, hb1⟩
        go_wp2
        go_ret
        exact ⟨(i : Int), rfl, by rw [HX.out]; simp, below_then hb hb1⟩
      · rw [hk] at hC
        have HC := Lib.hid hC
        have HX := Lib.hid (any_take hin hno.out (by rw [hk]; rfl))
        clear hC hk hp hs
        go_wp2_with fail
        refine HC.out.mono ?_
        rintro e w1 ⟨rfl, hb1⟩
        go_wp2
        go_roundw
        case rel => exact ⟨i + 1, by go_num, by omega, HX, below_then hb hb1⟩
        case measure => simp [intOf]; omega
    · obtain rfl : i = xs.length := by omega
      have HX := Lib.hid hno.out
      rw [List.take_length] at HX
      go_wp2
      go_ret
      exact ⟨-1, rfl, by rw [HX.out]; rfl, hb⟩
set_option maxRecDepth 100000 in
theorem containsW_calls {w : World} {A : Option Addr} {c n g : Nat} {xs : List Wr} (h : SL kWr w (Old w) A c xs) (hn : w.cell? ⟨g, 0, none⟩ = some (.int .i64 n)) :
    Calls Try.prog 32 #[.slice A xs.length c, .func (.func 30) #[] #[.pointer (some ⟨g, 0, none⟩)]] w fun e w' => e = .returned (.bool (!(xs.all (okWr n)))) ∧ Below w.heap.size w w' := by
  have HS := Lib.hid h
  have HN := Lib.hid hn
  have HE : Hid ((xs.any fun x => !okWr n x) = !(xs.all (okWr n))) := by show _ = _; rw [List.not_all_eq_any_not]
  clear h hn
  go_enter Try.func32, Try.ntmps32
  go_wp2_with fail
  refine (indexW_calls HS.out HN.out).mono ?_
  rintro e w1 ⟨z, rfl, hz, hb⟩
  have HZ := Lib.hid hz
  clear hz
  go_wp2
  go_ret
  exact ⟨by rw [← HE.out, ← HZ.out]; rfl, hb⟩
set_option maxRecDepth 100000 in
set_option maxHeartbeats 2000000 in
/-- slices.IndexFunc over sectors, by Check's second closure. -/
theorem indexB_calls {w : World} {A : Option Addr} {c : Nat} {xs : List (List UInt8)} (h : SL kBytes w (Old w) A c xs) :
    Calls Try.prog 44 #[.slice A xs.length c, .func (.func 34) #[] #[]] w (IndexR (xs.any fun x => !okSec x) w) := by
  have hll := Nat.le_trans h.le h.max
  unfold maxLen at hll
  have HS := Lib.hid h
  clear h
  go_enter Try.func44, Try.ntmps44
  go_wp2_with fail
  go_loopw [8] (fun i' wr => ∃ i : Nat, i' = .int .i64 i ∧ i ≤ xs.length ∧ Hid ((xs.take i).any (fun x => !okSec x) = false) ∧ Below w.heap.size w wr) (fun i' _ => xs.length - (intOf i').toNat)
  case atStart => exact ⟨0, rfl, Nat.zero_le _, rfl, Below.refl _ _⟩
  case round =>
    obtain ⟨i, rfl, hi, hno, hb⟩ := hrel
    by_cases hin : i < xs.length
    · obtain ⟨ad, A1, c1, rfl, f0, hs⟩ := SL.sl_at (HS.out.old hb) hin
      have hC := notSector_calls (w := wr) (A := A1) (c := c1) (b := xs[i])
      cases hk : okSec xs[i]
      · rw [hk] at hC
        have HC := Lib.hid hC
        have HX : Hid (xs.any (fun x => !okSec x) = true) := any_at hin (by rw [hk]; rfl)
        clear hC hk hs
        go_wp2_with fail
        refine HC.out.mono ?_
        rintro e w1 ⟨rfl, rfl⟩
        go_wp2
        go_ret
        exact ⟨(i : Int), rfl, by rw [HX.out]; simp, hb⟩
      · rw [hk] at hC
        have HC := Lib.hid hC
        have HX := Lib.hid (any_take hin hno.out (by rw [hk]; rfl))
        clear hC hk hs
        go_wp2_with fail
        refine HC.out.mono ?_
        rintro e w1 ⟨rfl, rfl⟩
        go_wp2
        go_roundw
        case rel => exact ⟨i + 1, by go_num, by omega, HX, hb⟩
        case measure => simp [intOf]; omega
    · obtain rfl : i = xs.length := by omega
      have HX := Lib.hid hno.out
      rw [List.take_length] at HX
      go_wp2
      go_ret
      exact ⟨-1, rfl, by rw [HX.out]; rfl, hb⟩
set_option maxRecDepth 100000 in
theorem containsB_calls {w : World} {A : Option Addr} {c : Nat} {xs : List (List UInt8)} (h : SL kBytes w (Old w) A c xs) :
    Calls Try.prog 33 #[.slice A xs.length c, .func (.func 34) #[] #[]] w fun e w' => e = .returned (.bool (!(xs.all okSec))) ∧ Below w.heap.size w w' := by
  have HS := Lib.hid h
  have HE : Hid ((xs.any fun x => !okSec x) = !(xs.all okSec)) := by show _ = _; rw [List.not_all_eq_any_not]
  clear h
  go_enter Try.func33, Try.ntmps33
  go_wp2_with fail
  refine (indexB_calls HS.out).mono ?_
  rintro e w1 ⟨z, rfl, hz, hb⟩
  have HZ := Lib.hid hz
  clear hz
  go_wp2
  go_ret
  exact ⟨by rw [← HE.out, ← HZ.out]; rfl, hb⟩
end Go.Proofs.Ytmcdimcjmafaoaa.B
