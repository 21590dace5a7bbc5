import Derived.Test.YtpmokmhakdkpdaaRValueA
import Derived.Deep.RegionHeld3
import Derived.IntWalk
namespace Go.Proofs.Ytpmokmhakdkpdaa.B
open Go.RowKit

/-- The reference's reader: in block g; F: the blocks that its bytes lie in. -/
structure RS (w : World) (g : Nat) (F : Foot) (xs : List UInt8) (at' : Nat) (bad : Bool) : Prop where
  at_ : ∃ A c, w.heap[g]? = some (.cells #[.slice A xs.length c, .int .i64 at', .bool bad] 62) ∧ SL kU8 w F A c xs
  not : ¬ F g
  le : at' ≤ xs.length
section
variable {w w' : World} {g : Nat} {F : Foot} {xs : List UInt8} {p q : Nat} {b b' : Bool}
theorem RS.lt (h : RS w g F xs p b) : g < w.heap.size := by obtain ⟨A, c, h1, _⟩ := h.at_; exact (Array.getElem?_eq_some_iff.1 h1).1
theorem RS.len (h : RS w g F xs p b) : xs.length < 9223372036854775808 := by
  obtain ⟨A, c, _, hs⟩ := h.at_
  have := Nat.le_trans hs.le hs.max
  unfold maxLen at this
  omega
theorem RS.move (h : RS w g F xs p b) (hm : ∀ k, (F k ∨ k = g) → k < w.heap.size → w'.heap[k]? = w.heap[k]?) (hs : w.heap.size ≤ w'.heap.size) : RS w' g F xs p b := by
  have hlt := h.lt
  obtain ⟨⟨A, c, h1, h2⟩, hn, hl⟩ := h
  exact ⟨⟨A, c, (hm g (.inr rfl) hlt).trans h1, h2.move (fun k hk hl => hm k (.inl hk) hl) hs⟩, hn, hl⟩
theorem RS.below (h : RS w g F xs p b) (hb : Below w.heap.size w w') : RS w' g F xs p b := h.move (fun k _ hl => hb.block k hl) hb.size
theorem RS.setAt (h : RS w g F xs p b) (hq : q ≤ xs.length) : RS (w.setCell ⟨g, 1, none⟩ (.int .i64 q)) g F xs q b := by
  obtain ⟨⟨A, c, h1, h2⟩, hn, _⟩ := h
  refine ⟨⟨A, c, ?_, h2.move (fun k hk _ => Below.heap_setCell _ _ _ _ (fun e => hn (by subst e; exact hk))) (by simp [World.setCell])⟩, hn, hq⟩
  simp [World.setCell, Array.getElem?_modify, h1]
theorem RS.setBad (h : RS w g F xs p b) : RS (w.setCell ⟨g, 2, none⟩ (.bool b')) g F xs p b' := by
  obtain ⟨⟨A, c, h1, h2⟩, hn, hl⟩ := h
  refine ⟨⟨A, c, ?_, h2.move (fun k hk _ => Below.heap_setCell _ _ _ _ (fun e => hn (by subst e; exact hk))) (by simp [World.setCell])⟩, hn, hl⟩
  simp [World.setCell, Array.getElem?_modify, h1]
theorem RS.setOther {v o : Nat} {u : Value} (h : RS w g F xs p b) (hv : ¬ F v) (hg : g ≠ v) : RS (w.setCell ⟨v, o, none⟩ u) g F xs p b :=
  h.move (fun k hk _ => Below.heap_setCell _ _ _ _ (fun e => by rcases hk with hk | hk; exact hv (by subst e; exact hk); exact hg (by rw [← hk, e]))) (by simp [World.setCell])
theorem grown_setg {o : Nat} {u : Value} : w.grownBy (w.setCell ⟨g, o, none⟩ u) (some g) := ⟨rfl, rfl, rfl, by simp [World.setCell], fun k _ hne => Below.heap_setCell _ _ _ _ (fun e => hne (by rw [e]))⟩
/-- The reader's cells, as the walk reads them. -/
theorem RS.facts (h : RS w g F xs p b) : ∃ A c, w.cell? ⟨g, 0, none⟩ = some (.slice A xs.length c) ∧ w.cell? ⟨g, 1, none⟩ = some (.int .i64 p) ∧ w.cell? ⟨g, 2, none⟩ = some (.bool b) ∧ w.frozen? ⟨g, 1, none⟩ = false ∧ w.frozen? ⟨g, 2, none⟩ = false ∧ SL kU8 w F A c xs := by
  obtain ⟨A, c, h1, h2⟩ := h.at_
  refine ⟨A, c, ?_, ?_, ?_, ?_, ?_, h2⟩ <;> simp [World.cell?, World.frozen?, h1]
end

set_option maxRecDepth 100000 in
set_option maxHeartbeats 2000000 in
/-- next(), where a byte is left. -/
theorem next_cons {w : World} {g : Nat} {F : Foot} {xs : List UInt8} {p : Nat} {b : Bool} (h : RS w g F xs p b) {x : UInt8} {r : List UInt8} (hx : xs.drop p = x :: r) :
    Calls Try.prog 48 #[.pointer (some ⟨g, 0, none⟩)] w fun e w' => e = .returned (.int .u8 x.toNat) ∧ RS w' g F xs (p + 1) b ∧ xs.drop (p + 1) = r ∧ w.grownBy w' (some g) := by
  have hp : p < xs.length := by
    rcases Nat.lt_or_ge p xs.length with h | h
    · exact h
    · rw [List.drop_eq_nil_of_le h] at hx; cases hx
  rw [List.drop_eq_getElem_cons hp] at hx
  injection hx with hx1 hx2
  subst hx1
  have HX := Lib.hid hx2
  have HR := Lib.hid h
  have hlen := h.len
  have hle := h.le
  obtain ⟨A, c, f0, f1, f2, z1, z2, hs⟩ := h.facts
  have HS := Lib.hid hs
  clear h hs hx2
  · obtain ⟨ad, rfl, hcell⟩ := HS.out.byte hp
    have w1 : IntKind.i64.wrap ((p : Int) + 1) = (p : Int) + 1 := IntWalk.i64_in _ (by omega)
    have w2 : IntKind.i64.wrap ((p : Int) + 1 - 1) = (p : Int) := by rw [IntWalk.i64_in _ (by omega)]; omega
    have w3 : IntKind.i64.wrap (p : Int) = (p : Int) := IntWalk.i64_in _ (by omega)
    have hb0 : (0 : Int) ≤ (p : Int) := by omega
    have hb1 : (p : Int) < (xs.length : Int) := by omega
    have hR1 : RS (w.setCell ⟨g, 1, none⟩ (.int .i64 ((p : Int) + 1))).drew g F xs (p + 1) b := (HR.out.setAt (q := p + 1) (by omega)).below (below_drew (Below.refl _ _))
    have hG1 : w.grownBy (w.setCell ⟨g, 1, none⟩ (.int .i64 ((p : Int) + 1))).drew (some g) := grown_trans grown_setg (grown_below (below_drew (Below.refl _ _)))
    obtain ⟨A', c', g0, g1, g2, _, _, hs1⟩ := hR1.facts
    obtain ⟨ad1, rfl, hcell1⟩ := hs1.byte hp
    have KEEP1 := Lib.hid (show (Hid (RS ((w.setCell ⟨g, 1, none⟩ (.int .i64 ((p : Int) + 1))).drew.drew) g F xs (p + 1) b ∧ w.grownBy ((w.setCell ⟨g, 1, none⟩ (.int .i64 ((p : Int) + 1))).drew.drew) (some g)) ∧ World.cell? ((w.setCell ⟨g, 1, none⟩ (.int .i64 ((p : Int) + 1))).drew.drew) ⟨g, 0, none⟩ = some (.slice (some ad1) xs.length c') ∧ World.cell? ((w.setCell ⟨g, 1, none⟩ (.int .i64 ((p : Int) + 1))).drew.drew) ⟨g, 1, none⟩ = some (.int .i64 ((p : Int) + 1)) ∧ World.cell? ((w.setCell ⟨g, 1, none⟩ (.int .i64 ((p : Int) + 1))).drew.drew) (ad1.add p) = some (.int .u8 xs[p].toNat)) from ⟨⟨hR1.below (below_drew (Below.refl _ _)), grown_trans hG1 (grown_below (below_drew (Below.refl _ _)))⟩, g0, g1, hcell1⟩)
    clear hR1 hG1 g0 g1 g2 hs1 hcell1
    go_enter Try.func48, Try.ntmps48
    go_wp2_with fail
    go_region_held3 (fun w' => w' = w.drew ∧ w'.cell? ⟨g, 0, none⟩ = some (.slice (some ad) xs.length c) ∧ w'.cell? ⟨g, 1, none⟩ = some (.int .i64 p)) (first | exact ⟨rfl, f0, f1⟩ | assumption) (fail)
    go_wp2_with fail
    go_region_held3 (fun w' => Hid (RS (w') g F xs (p + 1) b ∧ w.grownBy (w') (some g)) ∧ World.cell? (w') ⟨g, 0, none⟩ = some (.slice (some ad1) xs.length c') ∧ World.cell? (w') ⟨g, 1, none⟩ = some (.int .i64 ((p : Int) + 1)) ∧ World.cell? (w') (ad1.add p) = some (.int .u8 xs[p].toNat)) (first | exact KEEP1.out | assumption) (fail)
    have hres := (‹Hid (RS ((w.setCell ⟨g, 1, none⟩ (.int .i64 ((p : Int) + 1))).drew.drew) g F xs (p + 1) b ∧ w.grownBy ((w.setCell ⟨g, 1, none⟩ (.int .i64 ((p : Int) + 1))).drew.drew) (some g)) ∧ World.cell? ((w.setCell ⟨g, 1, none⟩ (.int .i64 ((p : Int) + 1))).drew.drew) ⟨g, 0, none⟩ = some (.slice (some ad1) xs.length c') ∧ World.cell? ((w.setCell ⟨g, 1, none⟩ (.int .i64 ((p : Int) + 1))).drew.drew) ⟨g, 1, none⟩ = some (.int .i64 ((p : Int) + 1)) ∧ World.cell? ((w.setCell ⟨g, 1, none⟩ (.int .i64 ((p : Int) + 1))).drew.drew) (ad1.add p) = some (.int .u8 xs[p].toNat)›).1
    go_wp2
    go_ret
    exact ⟨rfl, hres.out.1, HX.out, hres.out.2⟩
set_option maxRecDepth 100000 in
set_option maxHeartbeats 2000000 in
/-- next() at the end. -/
theorem next_nil {w : World} {g : Nat} {F : Foot} {xs : List UInt8} {p : Nat} {b : Bool} (h : RS w g F xs p b) (hx : xs.drop p = []) :
    Calls Try.prog 48 #[.pointer (some ⟨g, 0, none⟩)] w fun e w' => e = .returned (.int .u8 0) ∧ RS w' g F xs p true ∧ w.grownBy w' (some g) := by
  have hp : ¬ p < xs.length := by
    intro h
    rw [List.drop_eq_getElem_cons h] at hx
    cases hx
  have hlen := h.len
  have hle := h.le
  obtain rfl : p = xs.length := by omega
  have HR := Lib.hid h
  obtain ⟨A, c, f0, f1, f2, z1, z2, hs⟩ := h.facts
  clear h hs hx hp hle
  have HR1 : Hid (RS (w.setCell ⟨g, 2, none⟩ (.bool true)).drew g F xs xs.length true ∧ w.grownBy (w.setCell ⟨g, 2, none⟩ (.bool true)).drew (some g)) := ⟨HR.out.setBad.below (below_drew (Below.refl _ _)), grown_trans grown_setg (grown_below (below_drew (Below.refl _ _)))⟩
  go_enter Try.func48, Try.ntmps48
  go_wp2_with fail
  go_region_held3 (fun w' => w' = w.drew ∧ w'.cell? ⟨g, 0, none⟩ = some (.slice A xs.length c) ∧ w'.cell? ⟨g, 1, none⟩ = some (.int .i64 xs.length)) (first | exact ⟨rfl, f0, f1⟩ | assumption) (fail)
  go_wp2
  go_ret
  exact ⟨rfl, HR1.out.1, HR1.out.2⟩

theorem digit_sum {i u c : Nat} (hi : i ≤ 9) (h9 : i < 9 ∨ c ≤ 1) (hu : u < 2 ^ (7 * i)) : u + 2 ^ (7 * i) * (c % 128) < 18446744073709551616 := by
  have hm : c % 128 < 128 := Nat.mod_lt _ (by decide)
  rcases Nat.lt_or_ge i 9 with h | h
  · have h1 : 2 ^ (7 * i) ≤ 2 ^ (7 * 8) := Nat.pow_le_pow_right (by decide) (by omega)
    have h2 : 2 ^ (7 * i) * (c % 128) ≤ 2 ^ (7 * 8) * 127 := Nat.mul_le_mul h1 (by omega)
    have h3 : u + 2 ^ (7 * i) * (c % 128) < 2 ^ (7 * 8) + 2 ^ (7 * 8) * 127 := Nat.add_lt_add_of_lt_of_le (Nat.lt_of_lt_of_le hu h1) h2
    exact Nat.lt_trans h3 (by decide)
  · obtain rfl : i = 9 := by omega
    have h2 : 2 ^ (7 * 9) * (c % 128) ≤ 2 ^ (7 * 9) * 1 := Nat.mul_le_mul (Nat.le_refl _) (by omega)
    exact Nat.lt_of_lt_of_le (Nat.add_lt_add_of_lt_of_le hu h2) (by decide)
theorem wrap_nat' {m : Nat} (h : m < 18446744073709551616) : IntKind.u64.wrap (m : Int) = (m : Int) := by rw [IntKind.wrap_u64]; omega
theorem add_digit {i u c : Nat} (hi : i ≤ 9) (h9 : i < 9 ∨ c ≤ 1) (hu : u < 2 ^ (7 * i)) :
    IntKind.u64.wrap ((u : Int) + IntKind.u64.wrap ((c : Int) % 128 * 2 ^ (7 * i))) = ((u + 2 ^ (7 * i) * (c % 128) : Nat) : Int) := by
  have hs := digit_sum hi h9 hu
  have e1 : ((c : Int) % 128 * 2 ^ (7 * i)) = ((2 ^ (7 * i) * (c % 128) : Nat) : Int) := by push_cast; rw [Int.mul_comm]
  rw [e1, wrap_nat' (m := 2 ^ (7 * i) * (c % 128)) (by omega), show (u : Int) + ((2 ^ (7 * i) * (c % 128) : Nat) : Int) = ((u + 2 ^ (7 * i) * (c % 128) : Nat) : Int) by push_cast; rfl, wrap_nat' hs]
theorem add_digit0 {u c : Nat} (hu : u < 2 ^ (7 * 0)) : IntKind.u64.wrap ((u : Int) + (c : Int) % 128) = ((u + 2 ^ (7 * 0) * (c % 128) : Nat) : Int) := by
  have hs := digit_sum (i := 0) (c := c) (by omega) (.inl (by omega)) hu
  have e1 : (u : Int) + (c : Int) % 128 = ((u + 2 ^ (7 * 0) * (c % 128) : Nat) : Int) := by push_cast; simp
  rw [e1, wrap_nat' hs]
theorem add_digit9 {u c : Nat} (h9 : c ≤ 1) (hu : u < 2 ^ (7 * 9)) : IntKind.u64.wrap ((u : Int) + (c : Int) % 128 * 9223372036854775808) = ((u + 2 ^ (7 * 9) * (c % 128) : Nat) : Int) := by
  have hs := digit_sum (i := 9) (c := c) (by omega) (.inr h9) hu
  have e1 : (u : Int) + (c : Int) % 128 * 9223372036854775808 = ((u + 2 ^ (7 * 9) * (c % 128) : Nat) : Int) := by omega
  rw [e1, wrap_nat' hs]
set_option maxRecDepth 100000 in
set_option maxHeartbeats 2000000 in
/-- number(): a numeral. -/
theorem rnum_calls {w : World} {g : Nat} {F : Foot} {xs : List UInt8} {p : Nat} (h : RS w g F xs p false) :
    Calls Try.prog 49 #[.pointer (some ⟨g, 0, none⟩)] w fun e w' => ∃ (u q : Nat) (b : Bool), e = .returned (.int .u64 u) ∧ RS w' g F xs q b ∧ numM 0 (xs.drop p) = (if b then none else some (u, xs.drop q)) ∧ u < 18446744073709551616 ∧ w.grownBy w' (some g) := by
  have HR := Lib.hid h
  clear h
  go_enter Try.func49, Try.ntmps49
  go_wp2_with fail
  go_loopw [3, 4] (fun u' i' wr => ∃ (i u q : Nat), i' = .int .i64 i ∧ u' = .int .u64 u ∧ i ≤ 9 ∧ Hid (u < 2 ^ (7 * i)) ∧ Hid (numM 0 (xs.drop p) = (numM i (xs.drop q)).map fun pr => (u + 2 ^ (7 * i) * pr.1, pr.2)) ∧ Hid (RS wr g F xs q false) ∧ Hid (w.grownBy wr (some g))) (fun _ i' _ => 10 - (intOf i').toNat)
  case atStart => exact ⟨0, 0, p, rfl, rfl, by omega, (by decide : 0 < 2 ^ (7 * 0)), (by show numM 0 (xs.drop p) = _; cases numM 0 (xs.drop p) <;> simp), HR, World.grownBy.refl _ _⟩
  case round =>
    obtain ⟨i, u, q, rfl, rfl, hi, hu, hnum, hr, hg⟩ := hrel
    clear HR
    obtain ⟨A, c, f0, f1, f2, z1, z2, _⟩ := hr.out.facts
    have HG1 : ∀ w1, wr.grownBy w1 (some g) → w.grownBy w1 (some g) := fun w1 h => grown_trans hg.out h
    cases hx : xs.drop q with
    | nil =>
      have HX := Lib.hid hx
      have hnone : Hid (numM 0 (xs.drop p) = none) := by show numM 0 (xs.drop p) = none; rw [hnum.out, HX.out]; simp [numM]
      clear hx hnum
      rcases Nat.eq_zero_or_pos i with h0 | h0
      · subst h0
        obtain rfl : u = 0 := by have := hu.out; omega
        go_wp2_with (go_at_call 48; refine (next_nil hr.out HX.out).mono ?_; rintro e w1 ⟨rfl, hr1, hg1⟩)
        go_ret
        exact ⟨0, q, true, rfl, hr1, hnone.out, by decide, HG1 _ hg1⟩
      · go_wp2_with (go_at_call 48; refine (next_nil hr.out HX.out).mono ?_; rintro e w1 ⟨rfl, hr1, hg1⟩; obtain ⟨A1, c1, g0, g1, g2, z3, z4, _⟩ := hr1.facts)
        all_goals (go_ret; exact ⟨0, q, true, rfl, hr1.setBad, hnone.out, by decide, HG1 _ (grown_trans hg1 grown_setg)⟩)
    | cons x r =>
      have HX := Lib.hid hx
      clear hx
      have hc256 : x.toNat < 256 := x.toNat_lt
      by_cases hok : (i = 0 ∨ x.toNat ≠ 0) ∧ (i < 9 ∨ x.toNat ≤ 1)
      · obtain ⟨hok1, hok2⟩ := hok
        have hcase : i = 0 ∨ (i ≠ 0 ∧ x.toNat ≠ 0 ∧ i < 9) ∨ (i = 9 ∧ x.toNat ≠ 0 ∧ x.toNat ≤ 1) := by omega
        by_cases hlast : x.toNat < 128
        · have hsome : Hid (numM 0 (xs.drop p) = some (u + 2 ^ (7 * i) * (x.toNat % 128), r)) := by
            show numM 0 (xs.drop p) = _
            rw [hnum.out, HX.out, numM, if_pos ⟨hok1, hok2⟩, if_pos hlast, Nat.mod_eq_of_lt hlast]; rfl
          clear hnum
          clear hok1
          rcases hcase with rfl | ⟨h1, h2, h3⟩ | ⟨rfl, h2, h3⟩
          · clear hok2
            go_wp2_with (go_at_call 48; refine (next_cons hr.out HX.out).mono ?_; rintro e w1 ⟨rfl, hr1, hx1, hg1⟩; have HX1 := Lib.hid hx1; clear hx1)
            go_ret
            exact ⟨u + 2 ^ (7 * 0) * (x.toNat % 128), q + 1, false, congrArg (fun z => Ending.returned (Value.int .u64 z)) (add_digit0 hu.out), hr1, by rw [hsome.out, HX1.out]; rfl, digit_sum hi (.inl (by omega)) hu.out, HG1 _ hg1⟩
          · have HK := Lib.hid hok2
            clear hok2
            go_wp2_with (go_at_call 48; refine (next_cons hr.out HX.out).mono ?_; rintro e w1 ⟨rfl, hr1, hx1, hg1⟩; have HX1 := Lib.hid hx1; clear hx1)
            go_ret
            exact ⟨u + 2 ^ (7 * i) * (x.toNat % 128), q + 1, false, congrArg (fun z => Ending.returned (Value.int .u64 z)) (add_digit hi HK.out hu.out), hr1, by rw [hsome.out, HX1.out]; rfl, digit_sum hi HK.out hu.out, HG1 _ hg1⟩
          · have HK := Lib.hid hok2
            clear hok2
            have b1 : decide ((1 : Int) < (x.toNat : Int)) = false := by simp; omega
            have b2 : ((x.toNat : Int) == 0) = false := by simp; omega
            have b3 : ¬ ((1 : Int) < (x.toNat : Int)) := by omega
            go_wp2_with (go_at_call 48; refine (next_cons hr.out HX.out).mono ?_; rintro e w1 ⟨rfl, hr1, hx1, hg1⟩; have HX1 := Lib.hid hx1; clear hx1)
            go_ret
            exact ⟨u + 2 ^ (7 * 9) * (x.toNat % 128), q + 1, false, congrArg (fun z => Ending.returned (Value.int .u64 z)) (add_digit9 h3 hu.out), hr1, by rw [hsome.out, HX1.out]; rfl, digit_sum hi HK.out hu.out, HG1 _ hg1⟩
        · have hstep : Hid (numM 0 (xs.drop p) = (numM (i + 1) r).map fun pr => (u + 2 ^ (7 * i) * (x.toNat % 128) + 2 ^ (7 * (i + 1)) * pr.1, pr.2)) := by
            show numM 0 (xs.drop p) = _
            rw [hnum.out, HX.out, numM, if_pos ⟨hok1, hok2⟩, if_neg hlast]
            have e : 2 ^ (7 * (i + 1)) = 2 ^ (7 * i) * 128 := by rw [show 7 * (i + 1) = 7 * i + 7 by omega, Nat.pow_add]
            rw [e]
            cases numM (i + 1) r with
            | none => rfl
            | some pr => show some (u + 2 ^ (7 * i) * (x.toNat % 128 + 128 * pr.1), pr.2) = some (u + 2 ^ (7 * i) * (x.toNat % 128) + 2 ^ (7 * i) * 128 * pr.1, pr.2); rw [Nat.mul_add, Nat.mul_assoc, Nat.add_assoc]
          have hlt' : Hid (u + 2 ^ (7 * i) * (x.toNat % 128) < 2 ^ (7 * (i + 1))) := by
            show u + 2 ^ (7 * i) * (x.toNat % 128) < _
            have e : 2 ^ (7 * (i + 1)) = 2 ^ (7 * i) * 128 := by rw [show 7 * (i + 1) = 7 * i + 7 by omega, Nat.pow_add]
            rw [e]
            have h1 : 2 ^ (7 * i) * (x.toNat % 128) ≤ 2 ^ (7 * i) * 127 := Nat.mul_le_mul_left _ (by omega)
            have h2 : 2 ^ (7 * i) * 128 = 2 ^ (7 * i) * 127 + 2 ^ (7 * i) := rfl
            have := hu.out
            omega
          clear hnum
          clear hok1
          rcases hcase with rfl | ⟨h1, h2, h3⟩ | ⟨rfl, h2, h3⟩
          · clear hok2
            go_wp2_with (go_at_call 48; refine (next_cons hr.out HX.out).mono ?_; rintro e w1 ⟨rfl, hr1, hx1, hg1⟩; have HX1 := Lib.hid hx1; clear hx1)
            go_roundw
            case rel => exact ⟨1, _, q + 1, rfl, congrArg (Value.int .u64) (add_digit0 hu.out), by omega, hlt', by rw [HX1.out]; exact hstep, hr1, HG1 _ hg1⟩
            case measure => simp [intOf]
          · have HK := Lib.hid hok2
            clear hok2
            go_wp2_with (go_at_call 48; refine (next_cons hr.out HX.out).mono ?_; rintro e w1 ⟨rfl, hr1, hx1, hg1⟩; have HX1 := Lib.hid hx1; clear hx1)
            go_roundw
            case rel => exact ⟨i + 1, _, q + 1, by go_num, congrArg (Value.int .u64) (add_digit hi HK.out hu.out), by omega, hlt', by rw [HX1.out]; exact hstep, hr1, HG1 _ hg1⟩
            case measure => simp [intOf]; omega
          · exact absurd h3 (by omega)
      · have hnone : Hid (numM 0 (xs.drop p) = none) := by show numM 0 (xs.drop p) = none; rw [hnum.out, HX.out, numM, if_neg hok]; rfl
        clear hnum
        have hcase : (i ≠ 0 ∧ x.toNat = 0) ∨ (i = 9 ∧ 1 < x.toNat) := by omega
        clear hok
        rcases hcase with ⟨h1, h2⟩ | ⟨rfl, h2⟩
        · have hx0 : x = 0 := by
            have := UInt8.toNat_inj (a := x) (b := 0)
            exact this.1 (by simpa using h2)
          subst hx0
          go_wp2_with (go_at_call 48; refine (next_cons hr.out HX.out).mono ?_; rintro e w1 ⟨rfl, hr1, hx1, hg1⟩; clear hx1; obtain ⟨A1, c1, g0, g1, g2, z3, z4, _⟩ := hr1.facts)
          all_goals (go_ret; exact ⟨0, q + 1, true, rfl, hr1.setBad, hnone.out, by decide, HG1 _ (grown_trans hg1 grown_setg)⟩)
        · have b3 : ((1 : Int) < (x.toNat : Int)) := by omega
          go_wp2_with (go_at_call 48; refine (next_cons hr.out HX.out).mono ?_; rintro e w1 ⟨rfl, hr1, hx1, hg1⟩; clear hx1; obtain ⟨A1, c1, g0, g1, g2, z3, z4, _⟩ := hr1.facts)
          all_goals (go_ret; exact ⟨0, q + 1, true, rfl, hr1.setBad, hnone.out, by decide, HG1 _ (grown_trans hg1 grown_setg)⟩)
end Go.Proofs.Ytpmokmhakdkpdaa.B
