import Derived.Test.YtmcdimcjmafaoaaDiskF
import Derived.Test.YtmcdimcjmafaoaaOwnMore
import Derived.WalkSpells
namespace Go.Proofs.Ytmcdimcjmafaoaa.B
set_option linter.unusedVariables false
set_option linter.unusedSimpArgs false
open Go.RowKit

theorem info_u8 : (Try.prog.info? 5).map (fun i => (i.zero, i.size, i.bytes)) = some (some (.int .u8 0), 1, 1) := by kernel_rfl
theorem E_u8 : Elem Try.prog 35 5 1 1 := by
  obtain ⟨i, hi, h0, h1, h2⟩ := info_parts info_u8
  exact ⟨Try.underlying35, ⟨i, _, hi, h0, h1, h2, rfl⟩, by decide⟩
theorem info_bytes : (Try.prog.info? 35).map (fun i => (i.zero, i.size, i.bytes)) = some (some (.slice none 0 0), 1, 24) := by kernel_rfl
theorem E_bytes : Elem Try.prog 22 35 1 24 := by
  obtain ⟨i, hi, h0, h1, h2⟩ := info_parts info_bytes
  exact ⟨Try.underlying22, ⟨i, _, hi, h0, h1, h2, rfl⟩, by decide⟩
theorem info_wr : (Try.prog.info? 54).map (fun i => (i.zero, i.size, i.bytes)) = some (some (.agg #[.int .i64 0, .slice none 0 0]), 2, 32) := by kernel_rfl
theorem E_wr : Elem Try.prog 23 54 2 32 := by
  obtain ⟨i, hi, h0, h1, h2⟩ := info_parts info_wr
  exact ⟨Try.underlying23, ⟨i, _, hi, h0, h1, h2, rfl⟩, by decide⟩
/-- An empty row in a new block. -/
theorem own_empty {α : Type} {d : Kd α} {e : TypeId} (w : World) (F : Foot) (hF : ¬ F w.heap.size) {B : Nat} (hB : B ≤ w.heap.size) : Own d e (w.alloc (.cells #[] e)) B F (.slice (some ⟨w.heap.size, 0, none⟩) 0 0) ([] : List α) := by
  refine ⟨[], ?_, CellsOf.nil, fun k hk => ?_⟩
  · have := World.ownsRow_lit (e := e) (size := d.sz) w #[] 0 hB (by decide) (by simp)
    simpa using this
  · have : w.heap.size = k := by simpa [Value.ownBlock] using hk
    subst this
    exact hF
/-- A clone: a row of the call's own. -/
def CloneR {α : Type} (d : Kd α) (e : TypeId) (xs : List α) (w : World) (F : Foot) (en : Ending) (w' : World) : Prop := ∃ v', en = .returned v' ∧ Own d e w' w.heap.size F v' xs ∧ Below w.heap.size w w'
set_option maxRecDepth 100000 in
set_option maxHeartbeats 1000000 in
/-- slices.Clone: cloneW_calls. -/
theorem cloneW_calls {w : World} {F : Foot} {A : Option Addr} {c : Nat} {xs : List Wr} (h : SL kWr w F A c xs) (hFo : ∀ k, F k → k < w.heap.size) (hby : xs.length * 32 ≤ 140737488355328) :
    Calls Try.prog 38 #[.slice A xs.length c] w (CloneR kWr 54 xs w F) := by
  have HS := Lib.hid h
  cases A with
  | none =>
    obtain rfl : xs = [] := by
      cases xs with
      | nil => rfl
      | cons x r => obtain ⟨ad, _, hA, _⟩ := h.row 0 x rfl; cases hA
    clear h
    have hq := fun (w : World) => Lib.run_eql_slice_nil (P := Try.prog) w 23 54 none 0 c 0 0 Try.underlying23
    go_enter Try.func38, Try.ntmps38
    go_wp2
    go_ret
    exact ⟨_, rfl, Own.nil, Below.refl _ _⟩
  | some ad =>
    have hq := fun (w : World) => Lib.run_eql_slice_nil (P := Try.prog) w 23 54 (some ad) xs.length c 0 0 Try.underlying23
    have HO : Hid (Own kWr 54 (w.alloc (.cells #[] 54)) w.heap.size F (.slice (some ⟨w.heap.size, 0, none⟩) 0 0) []) := own_empty w F (fun h => Nat.lt_irrefl _ (hFo _ h)) (Nat.le_refl _)
    have HS1 := Lib.hid (HS.out.below (below_box (Below.refl w.heap.size w) (.cells #[] 54)))
    have hsz : Hid (w.heap.size ≤ (w.alloc (.cells #[] 54)).heap.size) := by show _ ≤ _; rw [World.size_alloc]; omega
    have HF : Hid (∀ k, F k → k < (w.alloc (.cells #[] 54)).heap.size) := fun k hk => Nat.lt_of_lt_of_le (hFo k hk) hsz.out
    have hby' : Hid ((([] : List Wr).length + xs.length) * 32 ≤ 140737488355328) := by show (([] : List Wr).length + xs.length) * 32 ≤ 140737488355328; simpa using hby
    clear h hby
    go_enter Try.func38, Try.ntmps38
    go_wp2_with (at_builtin; refine wpList_apps rfl (.tmp 5) (.tmp 6) _ rfl E_wr HO.out rfl (some ad) c rfl HS1.out.row (fun _ _ _ h => h) HF.out hby'.out (by decide) hsz.out ?_; intro v2 w2 hown2 hg2 hat2)
    go_ret
    have hB : Below w.heap.size w w2 := (Below.refl _ _ |> fun h => below_box h _).grown hg2 hsz.out (fun k hk => by have := (HO.out.lt k hk).1; omega)
    exact ⟨v2, rfl, by simpa using hown2, hB⟩
set_option maxRecDepth 100000 in
set_option maxHeartbeats 1000000 in
/-- slices.Clone: cloneB_calls. -/
theorem cloneB_calls {w : World} {F : Foot} {A : Option Addr} {c : Nat} {xs : List UInt8} (h : SL kU8 w F A c xs) (hFo : ∀ k, F k → k < w.heap.size) (hby : xs.length * 1 ≤ 140737488355328) :
    Calls Try.prog 41 #[.slice A xs.length c] w (CloneR kU8 5 xs w F) := by
  have HS := Lib.hid h
  cases A with
  | none =>
    obtain rfl : xs = [] := by
      cases xs with
      | nil => rfl
      | cons x r => obtain ⟨ad, _, hA, _⟩ := h.row 0 x rfl; cases hA
    clear h
    have hq := fun (w : World) => Lib.run_eql_slice_nil (P := Try.prog) w 35 5 none 0 c 0 0 Try.underlying35
    go_enter Try.func41, Try.ntmps41
    go_wp2
    go_ret
    exact ⟨_, rfl, Own.nil, Below.refl _ _⟩
  | some ad =>
    have hq := fun (w : World) => Lib.run_eql_slice_nil (P := Try.prog) w 35 5 (some ad) xs.length c 0 0 Try.underlying35
    have HO : Hid (Own kU8 5 (w.alloc (.cells #[] 5)) w.heap.size F (.slice (some ⟨w.heap.size, 0, none⟩) 0 0) []) := own_empty w F (fun h => Nat.lt_irrefl _ (hFo _ h)) (Nat.le_refl _)
    have HS1 := Lib.hid (HS.out.below (below_box (Below.refl w.heap.size w) (.cells #[] 5)))
    have hsz : Hid (w.heap.size ≤ (w.alloc (.cells #[] 5)).heap.size) := by show _ ≤ _; rw [World.size_alloc]; omega
    have HF : Hid (∀ k, F k → k < (w.alloc (.cells #[] 5)).heap.size) := fun k hk => Nat.lt_of_lt_of_le (hFo k hk) hsz.out
    have hby' : Hid ((([] : List UInt8).length + xs.length) * 1 ≤ 140737488355328) := by show (([] : List UInt8).length + xs.length) * 1 ≤ 140737488355328; simpa using hby
    clear h hby
    go_enter Try.func41, Try.ntmps41
    go_wp2_with (at_builtin; refine wpList_apps rfl (.tmp 5) (.tmp 6) _ rfl E_u8 HO.out rfl (some ad) c rfl HS1.out.row (fun _ _ _ h => h) HF.out hby'.out (by decide) hsz.out ?_; intro v2 w2 hown2 hg2 hat2)
    go_ret
    have hB : Below w.heap.size w w2 := (Below.refl _ _ |> fun h => below_box h _).grown hg2 hsz.out (fun k hk => by have := (HO.out.lt k hk).1; omega)
    exact ⟨v2, rfl, by simpa using hown2, hB⟩
set_option maxRecDepth 100000 in
set_option maxHeartbeats 1000000 in
/-- slices.Clone: cloneS_calls. -/
theorem cloneS_calls {w : World} {F : Foot} {A : Option Addr} {c : Nat} {xs : List (List UInt8)} (h : SL kBytes w F A c xs) (hFo : ∀ k, F k → k < w.heap.size) (hby : xs.length * 24 ≤ 140737488355328) :
    Calls Try.prog 46 #[.slice A xs.length c] w (CloneR kBytes 35 xs w F) := by
  have HS := Lib.hid h
  cases A with
  | none =>
    obtain rfl : xs = [] := by
      cases xs with
      | nil => rfl
      | cons x r => obtain ⟨ad, _, hA, _⟩ := h.row 0 x rfl; cases hA
    clear h
    have hq := fun (w : World) => Lib.run_eql_slice_nil (P := Try.prog) w 22 35 none 0 c 0 0 Try.underlying22
    go_enter Try.func46, Try.ntmps46
    go_wp2
    go_ret
    exact ⟨_, rfl, Own.nil, Below.refl _ _⟩
  | some ad =>
    have hq := fun (w : World) => Lib.run_eql_slice_nil (P := Try.prog) w 22 35 (some ad) xs.length c 0 0 Try.underlying22
    have HO : Hid (Own kBytes 35 (w.alloc (.cells #[] 35)) w.heap.size F (.slice (some ⟨w.heap.size, 0, none⟩) 0 0) []) := own_empty w F (fun h => Nat.lt_irrefl _ (hFo _ h)) (Nat.le_refl _)
    have HS1 := Lib.hid (HS.out.below (below_box (Below.refl w.heap.size w) (.cells #[] 35)))
    have hsz : Hid (w.heap.size ≤ (w.alloc (.cells #[] 35)).heap.size) := by show _ ≤ _; rw [World.size_alloc]; omega
    have HF : Hid (∀ k, F k → k < (w.alloc (.cells #[] 35)).heap.size) := fun k hk => Nat.lt_of_lt_of_le (hFo k hk) hsz.out
    have hby' : Hid ((([] : List (List UInt8)).length + xs.length) * 24 ≤ 140737488355328) := by show (([] : List (List UInt8)).length + xs.length) * 24 ≤ 140737488355328; simpa using hby
    clear h hby
    go_enter Try.func46, Try.ntmps46
    go_wp2_with (at_builtin; refine wpList_apps rfl (.tmp 5) (.tmp 6) _ rfl E_bytes HO.out rfl (some ad) c rfl HS1.out.row (fun _ _ _ h => h) HF.out hby'.out (by decide) hsz.out ?_; intro v2 w2 hown2 hg2 hat2)
    go_ret
    have hB : Below w.heap.size w w2 := (Below.refl _ _ |> fun h => below_box h _).grown hg2 hsz.out (fun k hk => by have := (HO.out.lt k hk).1; omega)
    exact ⟨v2, rfl, by simpa using hown2, hB⟩
end Go.Proofs.Ytmcdimcjmafaoaa.B
