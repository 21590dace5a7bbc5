import Derived.Test.YtmcdimcjmafaoaaClone
namespace Go.Proofs.Ytmcdimcjmafaoaa.B
set_option linter.unusedVariables false
set_option linter.unusedSimpArgs false
open Go.RowKit

set_option maxRecDepth 100000 in
theorem clipW_calls {w : World} {A : Option Addr} {n c : Nat} (h : n ≤ c) : Calls Try.prog 37 #[.slice A n c] w fun e w' => e = .returned (.slice A n n) ∧ w = w' := by
  have h1 : (n : Int) ≤ (c : Int) := by omega
  go_enter Try.func37, Try.ntmps37
  go_wp2
  go_ret
  exact ⟨by cases A <;> simp [Addr.add], rfl⟩
theorem zeros_cells (n : Nat) : madeCells #[.int .u8 0] n = ((List.replicate n (0 : UInt8)).map (fun b => Value.int .u8 (b.toNat : Int))).toArray := by
  apply Array.ext'
  simp only [madeCells, List.map_replicate]
  rw [List.toList_toArray]
  simp
  rw [List.eq_replicate_iff]
  refine ⟨by simp, fun b hb => ?_⟩
  obtain ⟨i, _, rfl⟩ := List.mem_map.1 hb
  simp [Nat.mod_one]
/-- make([]byte, 128). -/
theorem make128 (w : World) : (Instr.makeSlice 35 (.int .i64 128) (.int .i64 128)).run Try.prog w = .ok (.slice (some ⟨w.heap.size, 0, none⟩) 128 128) (w.alloc (.cells ((List.replicate 128 (0 : UInt8)).map (fun b => Value.int .u8 (b.toNat : Int))).toArray 5)) := by
  obtain ⟨i, hi, h0, h1, h2⟩ := info_parts info_u8
  have := run_make (P := Try.prog) w 35 5 i _ Try.underlying35 hi h0 .i64 .i64 128 128 (by decide) (by decide) (by rw [h2]; decide) (by decide)
  rw [this, h1, ← zeros_cells]
  rfl
end Go.Proofs.Ytmcdimcjmafaoaa.B
