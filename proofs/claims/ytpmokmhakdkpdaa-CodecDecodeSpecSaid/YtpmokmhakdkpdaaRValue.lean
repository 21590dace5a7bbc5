import Derived.Test.YtpmokmhakdkpdaaRValueB
namespace Go.Proofs.Ytpmokmhakdkpdaa.B
open Go.RowKit

/-- value(depth): what the parser tells. -/
theorem value_calls : ∀ (k d : Nat) {w : World} {g : Nat} {F : Foot} {r : List UInt8}, d + k = 16 → Rd w g F r → (∀ k, F k → k < w.heap.size) → r.length ≤ 1000000000 →
    Calls Try.prog 32 #[.pointer (some ⟨g, 0, none⟩), .int .i64 d] w (Reads w g F (valM k r)) := by
  intro k
  induction k with
  | zero =>
    intro d w g F r hd h hF hl
    cases r with
    | nil => exact value_nil h
    | cons c r =>
      by_cases h1 : c.toNat = 1
      · exact value_int h hF h1
      · by_cases h2 : c.toNat = 2
        · exact value_text h hF h2
        · by_cases h3 : c.toNat = 3
          · obtain rfl : d = 16 := by omega
            exact value_list0 h hF h3
          · exact value_bad h hF h1 h2 h3
  | succ k ih =>
    intro d w g F r hd h hF hl
    cases r with
    | nil => exact value_nil h
    | cons c r =>
      by_cases h1 : c.toNat = 1
      · exact value_int h hF h1
      · by_cases h2 : c.toNat = 2
        · exact value_text h hF h2
        · by_cases h3 : c.toNat = 3
          · refine value_list h hF h3 (by omega) (by simp only [List.length_cons] at hl; omega) (fun w F r h hF hl => ?_)
            have := ih (d + 1) (by omega) h hF hl
            exact this
          · exact value_bad h hF h1 h2 h3
end Go.Proofs.Ytpmokmhakdkpdaa.B
