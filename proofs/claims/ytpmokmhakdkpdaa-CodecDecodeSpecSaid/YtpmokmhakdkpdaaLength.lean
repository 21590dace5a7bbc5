import Derived.Test.YtpmokmhakdkpdaaNumber
namespace Go.Proofs.Ytpmokmhakdkpdaa.B
open Go.RowKit

set_option maxRecDepth 100000 in
set_option maxHeartbeats 2000000 in
/-- length(): a numeral that says how many bytes or elements follow. -/
theorem length_calls {w : World} {g : Nat} {F : Foot} {rest : List UInt8} (h : Rd w g F rest) :
    Calls Try.prog 47 #[.pointer (some ⟨g, 0, none⟩)] w
      (ReadsTo w g F (lenM rest) fun n _ v => v = .int .i64 n) := by
  have H := Lib.hid h
  have hlt := h.lt
  clear h
  cases hn : numM 0 rest with
  | none =>
    have hnone : Hid (lenM rest = none) := by show lenM rest = none; unfold lenM; rw [hn]; rfl
    have HN := Lib.hid hn
    clear hn
    go_enter Try.func47, Try.ntmps47
    go_wp2_with (go_at_call 46; refine (number_calls H.out).mono ?_; rintro e w1 ⟨hg1, he⟩; rw [HN.out] at he; obtain rfl := he)
    exact ⟨rfl, by rw [hnone.out]; exact ReadsTo.bad hg1⟩
  | some p =>
    obtain ⟨n, r⟩ := p
    have HN := Lib.hid hn
    have hn64 : n < 18446744073709551616 := numM_lt rest 0 (n, r) (by omega) hn
    clear hn
    by_cases hle : n ≤ r.length
    · have hsome : Hid (lenM rest = some (n, r)) := by show lenM rest = some (n, r); unfold lenM; rw [HN.out]; exact if_pos hle
      go_enter Try.func47, Try.ntmps47
      go_wp2_with (first | (go_at_call 46; refine (number_calls H.out).mono ?_; rintro e w1 ⟨hg1, he⟩; rw [HN.out] at he; obtain ⟨v, rfl, rfl, hr1⟩ := he; obtain ⟨⟨A, c, hc1, hs1⟩, hF1⟩ := id hr1; have hcell : w1.cell? ⟨g, 0, none⟩ = some (.slice A r.length c) := (by simp [World.cell?, hc1]); have hcr := Nat.le_trans hs1.le hs1.max; unfold maxLen at hcr; have HR1 := Lib.hid hr1; clear hr1 hc1 hs1 hF1) | (go_at_call 33; refine (want_yes (by first | rfl | (simp <;> omega))).mono ?_; rintro e w1 ⟨rfl, rfl⟩))
      go_ret
      rw [hsome.out]
      exact ReadsTo.ok hg1 rfl HR1.out
    · have hnone : Hid (lenM rest = none) := by show lenM rest = none; unfold lenM; rw [HN.out]; exact if_neg hle
      go_enter Try.func47, Try.ntmps47
      go_wp2_with (first | (go_at_call 46; refine (number_calls H.out).mono ?_; rintro e w1 ⟨hg1, he⟩; rw [HN.out] at he; obtain ⟨v, rfl, rfl, hr1⟩ := he; obtain ⟨⟨A, c, hc1, hs1⟩, hF1⟩ := id hr1; have hcell : w1.cell? ⟨g, 0, none⟩ = some (.slice A r.length c) := (by simp [World.cell?, hc1]); have hcr := Nat.le_trans hs1.le hs1.max; unfold maxLen at hcr; have HR1 := Lib.hid hr1; clear hr1 hc1 hs1 hF1) | (go_at_call 33; refine (want_no (by first | rfl | (simp <;> omega))).mono ?_; rintro e w1 ⟨rfl, rfl⟩))
      exact ⟨rfl, by rw [hnone.out]; exact ReadsTo.bad hg1⟩
end Go.Proofs.Ytpmokmhakdkpdaa.B
