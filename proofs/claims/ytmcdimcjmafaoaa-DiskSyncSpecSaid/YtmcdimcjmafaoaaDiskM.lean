import Derived.Test.YtmcdimcjmafaoaaDiskL
namespace Go.Proofs.Ytmcdimcjmafaoaa.B
set_option linter.unusedVariables false
set_option linter.unusedSimpArgs false
open Go.RowKit

theorem SL.str {w : World} {F : Foot} {A : Option Addr} {c : Nat} {xs : List UInt8} (h : SL kU8 w F A c xs) {m : Nat} (hm : m = xs.length) :
    (convert 35 9 (.slice A m c)).run Try.prog w = .ok (.string ⟨xs.toArray⟩) w := by
  subst hm
  cases A with
  | none =>
    have : xs = [] := by
      cases xs with
      | nil => rfl
      | cons x r => obtain ⟨ad, h1, _⟩ := h.byte (i := 0) (by simp); cases h1
    subst this
    exact run_convert_bytes_nil w _ _ Try.underlying35 Try.underlying5 _ _ _ Try.underlying9
  | some ad =>
    exact run_convert_bytes_back w _ _ _ ad c xs Try.underlying35 Try.underlying5 Try.underlying9 (fun j hj => by obtain ⟨ad', h1, h2⟩ := h.byte hj; injection h1 with h1; subst h1; exact h2)
set_option maxRecDepth 100000 in
set_option maxHeartbeats 1500000 in
/-- Same answers true at equal disks. -/
theorem same_calls {x : Dsk} {w : World} {cs cs' : List Value} (h : kDsk.K w (Old w) x cs) (h' : kDsk.K w (Old w) x cs') : Calls Try.prog 14 #[.agg cs.toArray, .agg cs'.toArray] w (Says (.bool true) w) := by
  obtain ⟨A, c, B, b, rfl, hs, hp, hl⟩ := kDsk_open h
  obtain ⟨A', d, B', e, rfl, hs', hp', _⟩ := kDsk_open h'
  have hsm := Nat.le_trans hs.le hs.max
  have hpm := Nat.le_trans hp.le hp.max
  unfold maxLen at hsm hpm
  have HS := Lib.hid hs
  have HP := Lib.hid hp
  have HS' := Lib.hid hs'
  have HP' := Lib.hid hp'
  clear h h' hs hp hs' hp'
  obtain ⟨secs, pend, left, stop⟩ := x
  simp only at HS HP HS' HP' hsm hpm ⊢
  have HB := Lib.hid ((dsk_box w ⟨secs, pend, left, stop⟩ A B c b).below (below_box (Below.refl _ _) (.cells #[.slice A' secs.length d, .slice B' pend.length e, .int .i64 left, .bool stop] 25)))
  have HV := Lib.hid (Blk.new (w.alloc (.cells #[.slice A secs.length c, .slice B pend.length b, .int .i64 left, .bool stop] 25)) 25 [.slice A' secs.length d, .slice B' pend.length e, .int .i64 left, .bool stop])
  rw [World.size_alloc] at HV
  simp only at HB
  have HW : Hid (Below w.heap.size w ((w.alloc (.cells #[.slice A secs.length c, .slice B pend.length b, .int .i64 left, .bool stop] 25)).alloc (.cells #[.slice A' secs.length d, .slice B' pend.length e, .int .i64 left, .bool stop] 25))) := below_box (below_box (Below.refl _ _) _) _
  obtain ⟨⟨f1, f2, f3, f4⟩, _⟩ := HB.out.facts4
  obtain ⟨⟨g1, g2, g3, g4⟩, _⟩ := HV.out.facts4
  go_enter Try.func14, Try.ntmps14
  go_wp2_with fail
  go_loopw [5] (fun i' wr => ∃ i : Nat, i' = .int .i64 i ∧ i ≤ secs.length ∧ Hid (Blk wr w.heap.size 25 [.slice A secs.length c, .slice B pend.length b, .int .i64 left, .bool stop]) ∧ Hid (Blk wr (w.heap.size + 1) 25 [.slice A' secs.length d, .slice B' pend.length e, .int .i64 left, .bool stop]) ∧ Hid (Below w.heap.size w wr)) (fun i' _ => secs.length - (intOf i').toNat)
  case atStart => exact ⟨0, rfl, Nat.zero_le _, HB, HV, HW⟩
  case round =>
    obtain ⟨i, rfl, hi, hB, hV, hW⟩ := hrel
    clear HB HV HW f1 f2 f3 f4 g1 g2 g3 g4
    by_cases hin : i < secs.length
    · obtain ⟨ad, A1, c1, rfl, p0, hsl⟩ := SL.sl_at (HS.out.below hW.out) hin
      obtain ⟨ad', A2, c2, rfl, p1, hsl'⟩ := SL.sl_at (HS'.out.below hW.out) hin
      have KEEP0 : ∀ w', Below wr.heap.size wr w' → (fun w' : World => Below wr.heap.size wr w' ∧ (w'.cell? ⟨w.heap.size, 0, none⟩ = some (.slice (some ad) secs.length c) ∧ w'.cell? ⟨w.heap.size + 1, 0, none⟩ = some (.slice (some ad') secs.length d)) ∧ (w'.cell? (ad.add i) = some (.slice A1 secs[i].length c1) ∧ w'.cell? (ad'.add i) = some (.slice A2 secs[i].length c2)) ∧ (convert 35 9 (.slice A1 secs[i].length c1)).run Try.prog w' = .ok (.string ⟨secs[i].toArray⟩) w' ∧ (convert 35 9 (.slice A2 secs[i].length c2)).run Try.prog w' = .ok (.string ⟨secs[i].toArray⟩) w') w' := fun w' hb => ⟨hb, ⟨(hB.out.below hb).facts4.1.1, (hV.out.below hb).facts4.1.1⟩, ⟨keepcell hb p0, keepcell hb p1⟩, SL.str (hsl.below hb) rfl, SL.str (hsl'.below hb) rfl⟩
      have KEEP1 := Lib.hid (KEEP0 _ (below_drew (Below.refl _ _)))
      obtain ⟨⟨f1, f2, f3, f4⟩, _⟩ := hB.out.facts4
      obtain ⟨⟨g1, g2, g3, g4⟩, _⟩ := hV.out.facts4
      clear KEEP0 p0 p1 hsl hsl'
      go_wp2_with fail
      go_region_held3 (fun w' : World => Below wr.heap.size wr w' ∧ (w'.cell? ⟨w.heap.size, 0, none⟩ = some (.slice (some ad) secs.length c) ∧ w'.cell? ⟨w.heap.size + 1, 0, none⟩ = some (.slice (some ad') secs.length d)) ∧ (w'.cell? (ad.add i) = some (.slice A1 secs[i].length c1) ∧ w'.cell? (ad'.add i) = some (.slice A2 secs[i].length c2)) ∧ (convert 35 9 (.slice A1 secs[i].length c1)).run Try.prog w' = .ok (.string ⟨secs[i].toArray⟩) w' ∧ (convert 35 9 (.slice A2 secs[i].length c2)).run Try.prog w' = .ok (.string ⟨secs[i].toArray⟩) w') (first | exact KEEP1.out | assumption) (fail)
      have HD := Lib.hid (below_drew (Below.refl wr.heap.size wr))
      go_wp2
      go_roundw
      case rel => exact ⟨i + 1, by go_num, by omega, hB.out.below HD.out, hV.out.below HD.out, below_then hW.out HD.out⟩
      case measure => simp [intOf]; omega
    · obtain ⟨⟨f1, f2, f3, f4⟩, _⟩ := hB.out.facts4
      obtain ⟨⟨g1, g2, g3, g4⟩, _⟩ := hV.out.facts4
      go_wp2_with fail
      go_loopw [6] (fun i' wr => ∃ i : Nat, i' = .int .i64 i ∧ i ≤ pend.length ∧ Hid (Blk wr w.heap.size 25 [.slice A secs.length c, .slice B pend.length b, .int .i64 left, .bool stop]) ∧ Hid (Blk wr (w.heap.size + 1) 25 [.slice A' secs.length d, .slice B' pend.length e, .int .i64 left, .bool stop]) ∧ Hid (Below w.heap.size w wr)) (fun i' _ => pend.length - (intOf i').toNat)
      case atStart => exact ⟨0, rfl, Nat.zero_le _, hB, hV, hW⟩
      case round =>
        clear hB hV hW f1 f2 f3 f4 g1 g2 g3 g4
        obtain ⟨i, rfl, hi, hB, hV, hW⟩ := hrel
        by_cases hin : i < pend.length
        · obtain ⟨ad, A1, c1, rfl, p0, p1, hpos, hsl⟩ := wr_at (HP.out.old hW.out) hin
          obtain ⟨ad', A2, c2, rfl, p2, p3, _, hsl'⟩ := wr_at (HP'.out.old hW.out) hin
          have KEEP0 : ∀ w', Below wr.heap.size wr w' → (fun w' : World => Below wr.heap.size wr w' ∧ (w'.cell? ⟨w.heap.size, 1, none⟩ = some (.slice (some ad) pend.length b) ∧ w'.cell? ⟨w.heap.size + 1, 1, none⟩ = some (.slice (some ad') pend.length e)) ∧ (w'.cell? (ad.add (i * 2)) = some (.int .i64 pend[i].pos) ∧ w'.cell? ⟨(ad.add (i * 2)).block, (ad.add (i * 2)).off + 1, none⟩ = some (.slice A1 pend[i].data.length c1)) ∧ (w'.cell? (ad'.add (i * 2)) = some (.int .i64 pend[i].pos) ∧ w'.cell? ⟨(ad'.add (i * 2)).block, (ad'.add (i * 2)).off + 1, none⟩ = some (.slice A2 pend[i].data.length c2)) ∧ (convert 35 9 (.slice A1 pend[i].data.length c1)).run Try.prog w' = .ok (.string ⟨pend[i].data.toArray⟩) w' ∧ (convert 35 9 (.slice A2 pend[i].data.length c2)).run Try.prog w' = .ok (.string ⟨pend[i].data.toArray⟩) w') w' := fun w' hb => ⟨hb, ⟨(hB.out.below hb).facts4.1.2.1, (hV.out.below hb).facts4.1.2.1⟩, ⟨keepcell hb p0, keepcell hb p1⟩, ⟨keepcell hb p2, keepcell hb p3⟩, SL.str (hsl.below hb) rfl, SL.str (hsl'.below hb) rfl⟩
          have KEEP1 := Lib.hid (KEEP0 _ (below_drew (Below.refl _ _)))
          obtain ⟨⟨f1, f2, f3, f4⟩, _⟩ := hB.out.facts4
          obtain ⟨⟨g1, g2, g3, g4⟩, _⟩ := hV.out.facts4
          clear KEEP0 p0 p1 p2 p3 hsl hsl'
          go_wp2_with fail
          go_region_held3 (fun w' : World => Below wr.heap.size wr w' ∧ (w'.cell? ⟨w.heap.size, 1, none⟩ = some (.slice (some ad) pend.length b) ∧ w'.cell? ⟨w.heap.size + 1, 1, none⟩ = some (.slice (some ad') pend.length e)) ∧ (w'.cell? (ad.add (i * 2)) = some (.int .i64 pend[i].pos) ∧ w'.cell? ⟨(ad.add (i * 2)).block, (ad.add (i * 2)).off + 1, none⟩ = some (.slice A1 pend[i].data.length c1)) ∧ (w'.cell? (ad'.add (i * 2)) = some (.int .i64 pend[i].pos) ∧ w'.cell? ⟨(ad'.add (i * 2)).block, (ad'.add (i * 2)).off + 1, none⟩ = some (.slice A2 pend[i].data.length c2)) ∧ (convert 35 9 (.slice A1 pend[i].data.length c1)).run Try.prog w' = .ok (.string ⟨pend[i].data.toArray⟩) w' ∧ (convert 35 9 (.slice A2 pend[i].data.length c2)).run Try.prog w' = .ok (.string ⟨pend[i].data.toArray⟩) w') (first | exact KEEP1.out | assumption) (fail)
          have HD := Lib.hid (below_drew (Below.refl wr.heap.size wr))
          go_wp2
          go_roundw
          case rel => exact ⟨i + 1, by go_num, by omega, hB.out.below HD.out, hV.out.below HD.out, below_then hW.out HD.out⟩
          case measure => simp [intOf]; omega
        · obtain ⟨⟨f1, f2, f3, f4⟩, _⟩ := hB.out.facts4
          obtain ⟨⟨g1, g2, g3, g4⟩, _⟩ := hV.out.facts4
          go_wp2
          go_ret
          exact Says.of rfl hW.out
end Go.Proofs.Ytmcdimcjmafaoaa.B
