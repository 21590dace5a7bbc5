/- DiskNewSpec answers true. -/
import Derived.Test.YtmcdimcjmafaoaaDiskSane
import Derived.Test.YtmcdimcjmafaoaaDiskFew
namespace Go.Proofs.Ytmcdimcjmafaoaa.B
set_option linter.unusedVariables false
set_option linter.unusedSimpArgs false
open Go.RowKit

theorem kDsk_shape {w : World} {F : Foot} {d : Dsk} {cs : List Value} (h : kDsk.K w F d cs) : ∃ A n c A' m c' l s, cs = [.slice A n c, .slice A' m c', .int .i64 l, .bool s] ∧ kDsk.K w F d [.slice A n c, .slice A' m c', .int .i64 l, .bool s] := by
  obtain ⟨A, n, c, A', m, c', l, s, e, hk, _⟩ := kDsk_parts h
  exact ⟨A, n, c, A', m, c', l, s, e, hk⟩
section
variable {d d' : Dsk} {z p n : Int} {m k : Nat} {b : List UInt8} {w : World} {F : Foot} {cs : List Value} {Ab : Option Addr} {cb : Nat}
theorem rnew_as (hd : newD n = d) (hz : newE n = z) (hn : I64 n) : Calls Try.prog 13 #[.int .i64 n] w (DskE d z w) := by subst hd; subst hz; exact rnew_calls hn
theorem rcheck_as (hz : checkD d = z) (h : kDsk.K w F d cs) : Calls Try.prog 16 #[.agg cs.toArray] w (Says (.int .i64 z) w) := by subst hz; exact rcheckD_calls (Kd.any h)
theorem check_as (hz : checkD d = z) (h : kDsk.K w F d cs) : Calls Try.prog 15 #[.agg cs.toArray] w (Says (.int .i64 z) w) := by subst hz; exact checkD_calls (Kd.any h)
theorem rrestart_as (hd : restartD d = d') (h : kDsk.K w F d cs) : Calls Try.prog 18 #[.agg cs.toArray] w (DskR d' w) := by subst hd; exact rrestart_calls (Kd.any h)
theorem dsame_as {F' : Foot} {cs' : List Value} (h : kDsk.K w F d cs) (h' : kDsk.K w F' d cs') : Calls Try.prog 14 #[.agg cs.toArray, .agg cs'.toArray] w (Says (.bool true) w) := same_calls (Kd.any h) (Kd.any h')
end
set_option maxRecDepth 100000 in
set_option maxHeartbeats 4000000 in
theorem newSpec_calls {n : Int} {d : Dsk} {w : World} {cs : List Value} (hn : I64 n) (hK0 : kDsk.K w (Old w) d cs) : Calls Try.prog 3 #[.int .i64 n, .agg cs.toArray] w (Says (.bool true) w) := by
  obtain ⟨A0, n0, c0, B0, m0, d0, l0, s0, rfl, hK0⟩ := kDsk_shape hK0
  have HN := Lib.hid hn
  obtain ⟨nlo, nhi⟩ := hn
  obtain ⟨F0, D0⟩ : ∃ F, Hid (DV (w.alloc (.cells #[.slice A0 n0 c0, .slice B0 m0 d0, .int .i64 l0, .bool s0] 25)) F w.heap.size d A0 n0 c0 B0 m0 d0 l0 s0) := ⟨_, DV.new hK0⟩
  have HB0 := Lib.hid (below_box (Below.refl w.heap.size w) (.cells #[.slice A0 n0 c0, .slice B0 m0 d0, .int .i64 l0, .bool s0] 25))
  clear hK0
  go_enter Try.func3, Try.ntmps3
  go_wp2_with fail
  refine sane47_calls.mono ?_
  rintro e w1 ⟨rfl, hb1⟩
  have D1 := Lib.hid (D0.out.below hb1)
  have HB1 := Lib.hid (below_then HB0.out hb1)
  clear hb1 D0 HB0
  by_cases hc : 60 < n ∧ n ≤ 4096
  · obtain ⟨h1, h2⟩ := hc
    go_wp2
    go_ret
    exact Says.of rfl HB1.out
  · have hcase : ¬ 60 < n ∨ (60 < n ∧ ¬ n ≤ 4096) := by omega
    clear hc
    have f := D1.out.facts
    obtain ⟨dn, hdn⟩ : ∃ x, newD n = x := ⟨_, rfl⟩
    obtain ⟨zn, hzn⟩ : ∃ x, newE n = x := ⟨_, rfl⟩
    obtain ⟨zc, hzc⟩ : ∃ x, checkD d = x := ⟨_, rfl⟩
    obtain ⟨dr, hdr⟩ : ∃ x, restartD d = x := ⟨_, rfl⟩
    have HDN := Lib.hid hdn
    have HZN := Lib.hid hzn
    have HZC := Lib.hid hzc
    have HDR := Lib.hid hdr
    clear hdn hzn hzc hdr
    rcases hcase with h1 | ⟨h1, h2⟩
    all_goals
      go_wp2_with fail
      refine (dfew_calls D1.out.k).mono ?_
      rintro e w2 ⟨q, rfl, hb2⟩
      have D2 := Lib.hid (D1.out.below hb2)
      have HB2 := Lib.hid (below_then HB1.out hb2)
      clear hb2 f
      cases q
      · go_wp2
        go_ret
        exact Says.of rfl HB2.out
      · go_wp2_with fail
        refine (new_as HDN.out HZN.out HN.out).mono ?_
        rintro e w5 ⟨cs5, rfl, hK5, hb5⟩
        obtain ⟨A5, n5, c5, B5, m5, d5, l5, s5, rfl, hK5⟩ := kDsk_shape hK5
        obtain ⟨F5, D5⟩ : ∃ F, Hid (DV (w5.alloc (.cells #[.slice A5 n5 c5, .slice B5 m5 d5, .int .i64 l5, .bool s5] 25)) F w5.heap.size dn A5 n5 c5 B5 m5 d5 l5 s5) := ⟨_, DV.new hK5⟩
        have hx5 := below_box hb5 (.cells #[.slice A5 n5 c5, .slice B5 m5 d5, .int .i64 l5, .bool s5] 25)
        have D5a := Lib.hid (D2.out.below hx5)
        have HB5 := Lib.hid (below_then HB2.out hx5)
        clear hK5 hb5 hx5
        go_wp2_with fail
        refine (rnew_as HDN.out HZN.out HN.out).mono ?_
        rintro e w6 ⟨cs6, rfl, hK6, hb6⟩
        obtain ⟨A6, n6, c6, B6, m6, d6, l6, s6, rfl, hK6⟩ := kDsk_shape hK6
        obtain ⟨F6, D6⟩ : ∃ F, Hid (DV (w6.alloc (.cells #[.slice A6 n6 c6, .slice B6 m6 d6, .int .i64 l6, .bool s6] 25)) F w6.heap.size dn A6 n6 c6 B6 m6 d6 l6 s6) := ⟨_, DV.new hK6⟩
        have hx6 := below_box hb6 (.cells #[.slice A6 n6 c6, .slice B6 m6 d6, .int .i64 l6, .bool s6] 25)
        have D6a := Lib.hid (D5a.out.below hx6)
        have D6b := Lib.hid (D5.out.below hx6)
        have HB6 := Lib.hid (below_then HB5.out hx6)
        clear hK6 hb6 hx6 D5a D5 HB5
        go_upto_region 7 with fail
        obtain ⟨w7, hw7⟩ : ∃ w7, w6.alloc (.cells #[.slice A6 n6 c6, .slice B6 m6 d6, .int .i64 l6, .bool s6] 25) = w7 := ⟨_, rfl⟩
        rw [hw7] at D6 D6a D6b HB6 ⊢
        clear hw7
        have KEEP0 : Hid (∀ w', Below w7.heap.size w7 w' → (fun w' => Below w7.heap.size w7 w' ∧ ((w'.cell? ⟨w5.heap.size, 0, none⟩ = some (.slice A5 n5 c5) ∧ w'.cell? ⟨w5.heap.size, 1, none⟩ = some (.slice B5 m5 d5) ∧ w'.cell? ⟨w5.heap.size, 2, none⟩ = some (.int .i64 l5) ∧ w'.cell? ⟨w5.heap.size, 3, none⟩ = some (.bool s5))) ∧ ((w'.cell? ⟨w6.heap.size, 0, none⟩ = some (.slice A6 n6 c6) ∧ w'.cell? ⟨w6.heap.size, 1, none⟩ = some (.slice B6 m6 d6) ∧ w'.cell? ⟨w6.heap.size, 2, none⟩ = some (.int .i64 l6) ∧ w'.cell? ⟨w6.heap.size, 3, none⟩ = some (.bool s6))) ∧ ((w'.cell? ⟨w.heap.size, 0, none⟩ = some (.slice A0 n0 c0) ∧ w'.cell? ⟨w.heap.size, 1, none⟩ = some (.slice B0 m0 d0) ∧ w'.cell? ⟨w.heap.size, 2, none⟩ = some (.int .i64 l0) ∧ w'.cell? ⟨w.heap.size, 3, none⟩ = some (.bool s0)))) w') := fun w' hb => ⟨hb, (D6b.out.below hb).facts, (D6.out.below hb).facts, (D6a.out.below hb).facts⟩
        have KEEP1 := Lib.hid (KEEP0.out _ (below_drew (Below.refl _ _)))
        have KEEP := Lib.hid (fun w' w'' (h : (fun w' => Below w7.heap.size w7 w' ∧ ((w'.cell? ⟨w5.heap.size, 0, none⟩ = some (.slice A5 n5 c5) ∧ w'.cell? ⟨w5.heap.size, 1, none⟩ = some (.slice B5 m5 d5) ∧ w'.cell? ⟨w5.heap.size, 2, none⟩ = some (.int .i64 l5) ∧ w'.cell? ⟨w5.heap.size, 3, none⟩ = some (.bool s5))) ∧ ((w'.cell? ⟨w6.heap.size, 0, none⟩ = some (.slice A6 n6 c6) ∧ w'.cell? ⟨w6.heap.size, 1, none⟩ = some (.slice B6 m6 d6) ∧ w'.cell? ⟨w6.heap.size, 2, none⟩ = some (.int .i64 l6) ∧ w'.cell? ⟨w6.heap.size, 3, none⟩ = some (.bool s6))) ∧ ((w'.cell? ⟨w.heap.size, 0, none⟩ = some (.slice A0 n0 c0) ∧ w'.cell? ⟨w.heap.size, 1, none⟩ = some (.slice B0 m0 d0) ∧ w'.cell? ⟨w.heap.size, 2, none⟩ = some (.int .i64 l0) ∧ w'.cell? ⟨w.heap.size, 3, none⟩ = some (.bool s0)))) w') (hb : Below w'.heap.size w' w'') => KEEP0.out w'' (below_then h.1 hb))
        go_region_held3 (fun w' => Below w7.heap.size w7 w' ∧ ((w'.cell? ⟨w5.heap.size, 0, none⟩ = some (.slice A5 n5 c5) ∧ w'.cell? ⟨w5.heap.size, 1, none⟩ = some (.slice B5 m5 d5) ∧ w'.cell? ⟨w5.heap.size, 2, none⟩ = some (.int .i64 l5) ∧ w'.cell? ⟨w5.heap.size, 3, none⟩ = some (.bool s5))) ∧ ((w'.cell? ⟨w6.heap.size, 0, none⟩ = some (.slice A6 n6 c6) ∧ w'.cell? ⟨w6.heap.size, 1, none⟩ = some (.slice B6 m6 d6) ∧ w'.cell? ⟨w6.heap.size, 2, none⟩ = some (.int .i64 l6) ∧ w'.cell? ⟨w6.heap.size, 3, none⟩ = some (.bool s6))) ∧ ((w'.cell? ⟨w.heap.size, 0, none⟩ = some (.slice A0 n0 c0) ∧ w'.cell? ⟨w.heap.size, 1, none⟩ = some (.slice B0 m0 d0) ∧ w'.cell? ⟨w.heap.size, 2, none⟩ = some (.int .i64 l0) ∧ w'.cell? ⟨w.heap.size, 3, none⟩ = some (.bool s0)))) (first | exact KEEP1.out | exact KEEP.out _ _ (by assumption) hb8) (first
          | (go_at_call 14; (with_reducible refine (dsame_as (D6b.out.below (And.left (by assumption))).k (D6.out.below (And.left (by assumption))).k).mono ?_); rintro e w8 ⟨rfl, hb8⟩)
          | (go_at_call 15; (with_reducible refine (check_as HZC.out (D6a.out.below (And.left (by assumption))).k).mono ?_); rintro e w8 ⟨rfl, hb8⟩)
          | (go_at_call 16; (with_reducible refine (rcheck_as HZC.out (D6a.out.below (And.left (by assumption))).k).mono ?_); rintro e w8 ⟨rfl, hb8⟩)
          | (go_at_call 17; (with_reducible refine (restart_as HDR.out (D6a.out.below (And.left (by assumption))).k).mono ?_); rintro e w8 ⟨csa, rfl, hKa, hb8⟩; obtain ⟨Aa, na, ca, Ba, ma, da, la, sa, rfl, hKa⟩ := kDsk_shape hKa; have hba := hb8)
          | (go_at_call 18; (with_reducible refine (rrestart_as HDR.out (D6a.out.below (And.left (by assumption))).k).mono ?_); rintro e w8 ⟨csb, rfl, hKb, hb8⟩; obtain ⟨Ab, nb, cb, Bb, mb, db, lb, sb, rfl, hKb⟩ := kDsk_shape hKb; have hbb := hb8)
          | (go_at_call 14; (with_reducible refine (dsame_as hKa (Kd.below hKb hba)).mono ?_); rintro e w8 ⟨rfl, hb8⟩)
          | (go_at_call 14; (with_reducible refine (dsame_as (Kd.below hKa hbb) hKb).mono ?_); rintro e w8 ⟨rfl, hb8⟩))
        all_goals
          go_wp2
          go_ret
          exact Says.of rfl (below_then HB6.out (And.left (by assumption)))
end Go.Proofs.Ytmcdimcjmafaoaa.B
