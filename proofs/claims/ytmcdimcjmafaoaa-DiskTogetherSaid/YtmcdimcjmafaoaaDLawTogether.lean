/- DiskTogether answers true. -/
import Derived.Test.YtmcdimcjmafaoaaDLawStopped
import Derived.Test.YtmcdimcjmafaoaaActs
import Derived.BigQuiet
import Derived.Deep.QuietTactic
namespace Go.Proofs.Ytmcdimcjmafaoaa.B
set_option linter.unusedVariables false
set_option linter.unusedSimpArgs false
open Go.RowKit

/-- What DiskTogether leans on. -/
theorem together_one {n : Nat} {d : Dsk} {l : List ActM} (hr : d.runs = true) (hp : d.pend = []) (hn : n = d.secs.length) (h1 : 1 ≤ n) (hl : l.length ≤ 4096) (hz : (oneD n d l).2 = 0) (a : ActM) :
    writeE (oneD n d l).1 (actAt n a) [a.byte] = 0 := by
  have h := one_eq l d hr hp hn h1 hl
  rw [h] at hz ⊢
  have hp' : (syncD (manyD n d l)).pend = [] := sync_pend
  have hm := many_eq l d hr hn h1 (by rw [hp]; simpa using hl)
  have hs : (syncD (manyD n d l)).secs.length = n := by
    obtain ⟨e1, e2⟩ := syncE_ok.1 hz
    rw [(sync_ok e1 e2).2]
    show (performD _ _).length = n
    rw [length_performD, hm.1, hn]
  exact (act_write (sync_runs hz) hs.symm h1 (by rw [hp']; decide) a).1
theorem together_many {n : Nat} {d : Dsk} {l : List ActM} (hr : d.runs = true) (hp : d.pend = []) (hn : n = d.secs.length) (h1 : 1 ≤ n) (hl : l.length + 1 ≤ 4096) (a : ActM) : writeE (manyD n d l) (actAt n a) [a.byte] = 0 := by
  have hm := many_eq l d hr hn h1 (by rw [hp]; simp; omega)
  refine (act_write hm.2 (by rw [hm.1]; exact hn) h1 ?_ a).1
  rw [hm.1, hp]
  simp
  omega
theorem one_exit {n : Nat} {d : Dsk} {l : List ActM} {i : Nat} (h : l.length ≤ i ∨ (oneD n d (l.take i)).2 ≠ 0) : oneD n d l = oneD n d (l.take i) := by
  rcases h with h | h
  · rw [List.take_of_length_le h]
  · have e : oneD n d l = (l.drop i).foldl (oneStep n) (oneD n d (l.take i)) := by
      unfold oneD
      rw [← List.foldl_append, List.take_append_drop]
    rw [e, one_stop h]
set_option maxRecDepth 100000 in
set_option maxHeartbeats 4000000 in
theorem togetherLaw_calls {d : Dsk} {acts : List ActM} {w : World} {cs : List Value} {As : Option Addr} {cA : Nat} (hK0 : kDsk.K w (Old w) d cs) (ha : SL kAct w (Old w) As cA acts) :
    Calls Try.prog 8 #[.agg cs.toArray, .slice As acts.length cA] w (Says (.bool true) w) := by
  obtain ⟨A0, n0, c0, B0, m0, d0, l0, s0, rfl, hK0⟩ := kDsk_shape hK0
  have HA := Lib.hid ha
  obtain ⟨na, hna⟩ : ∃ na, acts.length = na := ⟨_, rfl⟩
  have hal := Nat.le_trans ha.le ha.max
  unfold maxLen at hal
  rw [hna] at hal ⊢
  have HNA := Lib.hid hna
  obtain ⟨hs0, hp0, hl0, en0, em0, el0, es0⟩ := kDsk_rows hK0
  have hnl := Nat.le_trans hs0.le hs0.max
  have hml := Nat.le_trans hp0.le hp0.max
  unfold maxLen at hnl hml
  rw [← en0] at hnl
  rw [← em0] at hml
  have EN0 := Lib.hid en0
  have EM0 := Lib.hid em0
  have ES0 := Lib.hid es0
  have HK0 := Lib.hid hK0
  have D0 : Hid (DV (w.alloc (.cells #[.slice A0 n0 c0, .slice B0 m0 d0, .int .i64 l0, .bool s0] 25)) (Old w) w.heap.size d A0 n0 c0 B0 m0 d0 l0 s0) := (DV.new hK0).mono (fun k hk _ => hk.2)
  have HB0 := Lib.hid (below_box (Below.refl w.heap.size w) (.cells #[.slice A0 n0 c0, .slice B0 m0 d0, .int .i64 l0, .bool s0] 25))
  clear hK0 ha hna hs0 hp0 hl0 en0 em0 el0 es0
  go_enter Try.func8, Try.ntmps8
  go_wp2_with fail
  refine sane47_calls.mono ?_
  rintro e w1 ⟨rfl, hb1⟩
  have D1 := Lib.hid (D0.out.below hb1)
  have HB1 := Lib.hid (below_then HB0.out hb1)
  clear hb1 D0 HB0
  have f := D1.out.facts
  go_wp2_with fail
  refine (dfew_calls D1.out.k).mono ?_
  rintro e w2 ⟨qf, rfl, hb2⟩
  have D2 := Lib.hid (D1.out.below hb2)
  have HB2 := Lib.hid (below_then HB1.out hb2)
  clear hb2 f D1 HB1
  cases qf
  · go_wp2
    go_ret
    exact Says.of rfl HB2.out
  have f := D2.out.facts
  by_cases hbig : 20 < na
  · go_wp2
    go_ret
    exact Says.of rfl HB2.out
  by_cases hm : 0 < m0
  · go_wp2
    go_ret
    exact Says.of rfl HB2.out
  obtain rfl : 0 = m0 := by omega
  clear hm
  by_cases hn : n0 = 0
  · subst hn
    go_wp2
    go_ret
    exact Says.of rfl HB2.out
  have hn1 : 1 ≤ n0 := by omega
  have hnb : ((n0 : Int) == 0) = false := beq_eq_false_iff_ne.2 (by omega)
  clear hn
  rcases checkD_cases d with ⟨hv, hz⟩ | ⟨hv, hz⟩
  case inr =>
    have HZ := Lib.hid hz
    clear hv hz
    go_wp2_with fail
    refine (check_as HZ.out D2.out.k).mono ?_
    rintro e w3 ⟨rfl, hb3⟩
    have HB3 := Lib.hid (below_then HB2.out hb3)
    go_wp2
    go_ret
    exact Says.of rfl HB3.out
  have HZ := Lib.hid hz
  have HV := Lib.hid hv
  clear hv hz
  go_wp2_with fail
  refine (check_as HZ.out D2.out.k).mono ?_
  rintro e w3 ⟨rfl, hb3⟩
  have D3 := Lib.hid (D2.out.below hb3)
  have HB3 := Lib.hid (below_then HB2.out hb3)
  clear f hb3 D2 HB2
  cases s0
  case true =>
    have f := D3.out.facts
    go_wp2
    go_ret
    exact Says.of rfl HB3.out
  have HR : Hid (d.runs = true) := (runs_iff d).2 ⟨HV.out, ES0.out.symm⟩
  have HPD : Hid (d.pend = []) := List.eq_nil_of_length_eq_zero EM0.out.symm
  have f := D3.out.facts
  go_upto_region 5 with fail
  clear f
  go_cut [5, 6] (fun s5 s6 wx => ∃ g5 g6, s5 = .pointer (some ⟨g5, 0, none⟩) ∧ s6 = .pointer (some ⟨g6, 0, none⟩) ∧ Hid (TG w wx g5 g6 d d d A0 n0 c0 B0 0 d0 l0 false))
  case first =>
    have KEEP0 : Hid (∀ w', Below w3.heap.size w3 w' → (fun w' => Below w3.heap.size w3 w' ∧ ((w'.cell? ⟨w.heap.size, 0, none⟩ = some (.slice A0 n0 c0) ∧ w'.cell? ⟨w.heap.size, 1, none⟩ = some (.slice B0 0 d0) ∧ w'.cell? ⟨w.heap.size, 2, none⟩ = some (.int .i64 l0) ∧ w'.cell? ⟨w.heap.size, 3, none⟩ = some (.bool false)))) w') := fun w' hb => ⟨hb, (D3.out.below hb).facts⟩
    have KEEP1 := Lib.hid (KEEP0.out _ (below_drew (Below.refl _ _)))
    have hw3 := HB3.out.size
    have hg3 := D3.out.b.lt
    go_region_held3 (fun w' => Below w3.heap.size w3 w' ∧ ((w'.cell? ⟨w.heap.size, 0, none⟩ = some (.slice A0 n0 c0) ∧ w'.cell? ⟨w.heap.size, 1, none⟩ = some (.slice B0 0 d0) ∧ w'.cell? ⟨w.heap.size, 2, none⟩ = some (.int .i64 l0) ∧ w'.cell? ⟨w.heap.size, 3, none⟩ = some (.bool false)))) (first | exact KEEP1.out | exact KEEP0.out _ (by repeat (first | exact Below.refl _ _ | assumption | refine below_drew ?_ | refine below_box ?_ _ | refine below_set4 ?_ (by omega) _ _ _ _))) (fail)
    all_goals
      go_wp2
      go_meet
      first
        | exact ⟨_, _, rfl, rfl, (TG.two D3.out HB3.out).1⟩
        | exact ⟨_, _, rfl, rfl, (TG.two D3.out HB3.out).2⟩
  case rest =>
    obtain ⟨g5, g6, rfl, rfl, hT⟩ := hcut
    rename_i w4
    have HLA : Hid (acts.length ≤ 20) := by show _ ≤ _; rw [HNA.out]; omega
    clear D3 HB3 HZ HV
    have hT4 := hT
    go_wp2_with fail
    go_loopw [7, 8] (fun e' i' wr => ∃ (i : Nat) (z : Int), i' = .int .i64 i ∧ e' = .int .i64 z ∧ i ≤ na ∧ Hid ((oneD n0 d (acts.take i)).2 = z) ∧ Hid (TG w wr g5 g6 d (oneD n0 d (acts.take i)).1 d A0 n0 c0 B0 0 d0 l0 false)) (fun _ i' _ => na - (intOf i').toNat)
    case atStart => exact ⟨0, 0, rfl, rfl, Nat.zero_le _, rfl, hT⟩
    case round =>
      obtain ⟨i, z, rfl, rfl, hi, hz, hT⟩ := hrel
      clear hT4
      by_cases hgo : i < na ∧ z = 0
      · obtain ⟨hin, hz0⟩ := hgo
        subst hz0
        have hin' : i < acts.length := by rw [HNA.out]; exact hin
        obtain ⟨ad, rfl, _, a1, a2⟩ := act_at (HA.out.below hT.out.bel) hin'
        obtain ⟨act, hact⟩ : ∃ a, acts[i] = a := ⟨_, rfl⟩
        rw [hact] at a1 a2
        have HW := Lib.hid (together_one HR.out HPD.out EN0.out hn1 (by rw [List.length_take]; have := HLA.out; omega) hz.out act)
        have HSTEP : Hid (oneD n0 d (acts.take (i + 1)) = (syncD (writeD (oneD n0 d (acts.take i)).1 (actAt n0 act) [act.byte]), syncE (writeD (oneD n0 d (acts.take i)).1 (actAt n0 act) [act.byte]))) := by
          show _ = _
          rw [List.take_succ_eq_append_getElem hin', one_snoc, hact]
          unfold oneStep
          rw [if_pos hz.out]
        have hpn : act.pos.toNat ≤ 255 := by have := act.pos.toNat_lt; omega
        obtain ⟨pn, hpe⟩ : ∃ pn, act.pos.toNat = pn := ⟨_, rfl⟩
        obtain ⟨bn, hbe⟩ : ∃ bn, act.byte.toNat = bn := ⟨_, rfl⟩
        rw [hpe] at a1 hpn
        rw [hbe] at a2
        have HPE : Hid (actAt n0 act = ((pn % n0 : Nat) : Int)) := by show actAt n0 act = _; unfold actAt; rw [hpe]
        have HBE := Lib.hid hbe
        have hpi : (pn : Int) ≤ 255 := by omega
        clear hpe hbe
        obtain ⟨x, hx⟩ : ∃ x, (oneD n0 d (acts.take i)).1 = x := ⟨_, rfl⟩
        rw [hx] at hT HW HSTEP
        have HA1 := Lib.hid a1
        have HA2 := Lib.hid a2
        have f := hT.out.d.facts
        have hlo : (0 : Int) ≤ (i : Int) := by omega
        have hhi : (i : Int) < (na : Int) := by omega
        clear hz hx hact
        go_wp2_with fail
        go_quiet (fail)
        obtain ⟨p, hpp⟩ : ∃ p : Int, (pn : Int) % (n0 : Int) = p := ⟨_, rfl⟩
        have hPA : actAt n0 act = p := by rw [HPE.out, ← hpp]; rfl
        have HPI : Hid (I64 p) := by
          have h1 := Int.emod_nonneg (pn : Int) (show (n0 : Int) ≠ 0 by omega)
          have h2 := Int.emod_lt_of_pos (pn : Int) (show (0 : Int) < n0 by omega)
          show I64 p
          unfold I64; omega
        rw [hPA] at HW HSTEP
        rw [hpp]
        clear hpp hPA hpi hpn f HPE
        obtain ⟨dw, hdw⟩ : ∃ y, writeD x p [act.byte] = y := ⟨_, rfl⟩
        rw [hdw] at HSTEP
        have HDW := Lib.hid hdw
        clear hdw
        obtain ⟨w5, hw5⟩ : ∃ w5, wr.drewN nq = w5 := ⟨_, rfl⟩
        have hb5 := below_drewN (Below.refl wr.heap.size wr) nq
        rw [hw5] at hb5 ⊢
        have hT5 := Lib.hid (hT.out.below hb5)
        have ha2 := Lib.hid (keepcell hb5 HA2.out)
        clear hw5 hb5 hT HA1 HA2 a1 a2
        obtain ⟨Fx, Ax, nx, cx, Bx, mx, ddx, lx, sx, hDx, hx5, hx6⟩ := hT5.out.x
        obtain ⟨l5, l6⟩ := hT5.out.lt5
        have Dx := Lib.hid hDx
        have HX5 := Lib.hid hx5
        have HX6 := Lib.hid hx6
        clear hDx hx5 hx6
        go_wp2_with fail
        go_cut [10, 11] (fun s10 s11 wx => s11 = .int .i64 0 ∧ ∃ g10 F A n c B m d' l s, s10 = .pointer (some ⟨g10, 0, none⟩) ∧ Hid (DV wx F g10 dw A n c B m d' l s) ∧ Hid (¬ F g5) ∧ Hid (¬ F g6) ∧ Hid (TG w wx g5 g6 d x d A0 n0 c0 B0 0 d0 l0 false))
        case first =>
          have KEEP0 : Hid (∀ w', Below w5.heap.size w5 w' → (fun w' => Below w5.heap.size w5 w' ∧ ((w'.cell? ⟨g5, 0, none⟩ = some (.slice Ax nx cx) ∧ w'.cell? ⟨g5, 1, none⟩ = some (.slice Bx mx ddx) ∧ w'.cell? ⟨g5, 2, none⟩ = some (.int .i64 lx) ∧ w'.cell? ⟨g5, 3, none⟩ = some (.bool sx))) ∧ w'.cell? ⟨(ad.add (i * 3)).block, (ad.add (i * 3)).off + 2, none⟩ = some (.int .u8 bn)) w') := fun w' hb => ⟨hb, (Dx.out.below hb).facts, keepcell hb ha2.out⟩
          have KEEP1 := Lib.hid (KEEP0.out _ (below_drew (Below.refl _ _)))
          have SA := Lib.hid (one_sl (one_byte w5 act.byte HBE.out) (below_drew (Below.refl _ _)))
          have hSB := one_sl (one_byte (w5.alloc (.cells #[.slice none 0 0, .slice none 0 0, .int .i64 0, .bool false] 25)) act.byte HBE.out) (below_drew (Below.refl _ _))
          rw [World.size_alloc] at hSB
          have SB := Lib.hid hSB
          have SC := Lib.hid (one_sl (one_byte w5 act.byte HBE.out) (below_drew (below_box (Below.refl _ _) (.cells #[.slice none 0 0, .slice none 0 0, .int .i64 0, .bool false] 25))))
          clear hSB
          go_region_held3 (fun w' => Below w5.heap.size w5 w' ∧ ((w'.cell? ⟨g5, 0, none⟩ = some (.slice Ax nx cx) ∧ w'.cell? ⟨g5, 1, none⟩ = some (.slice Bx mx ddx) ∧ w'.cell? ⟨g5, 2, none⟩ = some (.int .i64 lx) ∧ w'.cell? ⟨g5, 3, none⟩ = some (.bool sx))) ∧ w'.cell? ⟨(ad.add (i * 3)).block, (ad.add (i * 3)).off + 2, none⟩ = some (.int .u8 bn)) (first | exact KEEP1.out | exact KEEP0.out _ (by repeat (first | exact Below.refl _ _ | assumption | refine below_drew ?_ | refine below_box ?_ _ | refine below_set4 ?_ (by omega) _ _ _ _))) (first | (((with_reducible refine (write_as (w := (w5.alloc (.cells #[.int .u8 bn] 5)).drew) (b := [act.byte]) (m := 1) HDW.out HW.out rfl (Kd.below (kd_now Dx.out.k) (below_drew (below_box (Below.refl _ _) (.cells #[.int .u8 bn] 5)))) HPI.out SA.out).mono ?_); rintro e w11 ⟨cs11, rfl, hK11, hb11⟩; obtain ⟨A11, n11, c11, B11, m11, d11, l11, s11, rfl, hK11⟩ := kDsk_shape hK11; have hbx := below_then (below_drew (below_box (Below.refl _ _) (.cells #[.int .u8 bn] 5))) hb11; have hbz := hb11; skip)) | (((with_reducible refine (write_as (w := ((w5.alloc (.cells #[.slice none 0 0, .slice none 0 0, .int .i64 0, .bool false] 25)).alloc (.cells #[.int .u8 bn] 5)).drew) (b := [act.byte]) (m := 1) HDW.out HW.out rfl (Kd.below (kd_now Dx.out.k) (below_drew (below_box (below_box (Below.refl _ _) (.cells #[.slice none 0 0, .slice none 0 0, .int .i64 0, .bool false] 25)) (.cells #[.int .u8 bn] 5)))) HPI.out SB.out).mono ?_); rintro e w11 ⟨cs11, rfl, hK11, hb11⟩; obtain ⟨A11, n11, c11, B11, m11, d11, l11, s11, rfl, hK11⟩ := kDsk_shape hK11; have hbx := below_then (below_drew (below_box (below_box (Below.refl _ _) (.cells #[.slice none 0 0, .slice none 0 0, .int .i64 0, .bool false] 25)) (.cells #[.int .u8 bn] 5))) hb11; have hbz := hb11; have hbl := ((Blk.new w5 25 [.slice none 0 0, .slice none 0 0, .int .i64 0, .bool false]).below (below_then (below_drew (below_box (Below.refl _ _) (.cells #[.int .u8 bn] 5))) hb11)); obtain ⟨⟨y1, y2, y3, y4⟩, y5, y6, y7, y8⟩ := hbl.facts4)) | (((with_reducible refine (write_as (w := ((w5.alloc (.cells #[.int .u8 bn] 5)).alloc (.cells #[.slice none 0 0, .slice none 0 0, .int .i64 0, .bool false] 25)).drew) (b := [act.byte]) (m := 1) HDW.out HW.out rfl (Kd.below (kd_now Dx.out.k) (below_drew (below_box (below_box (Below.refl _ _) (.cells #[.int .u8 bn] 5)) (.cells #[.slice none 0 0, .slice none 0 0, .int .i64 0, .bool false] 25)))) HPI.out SC.out).mono ?_); rintro e w11 ⟨cs11, rfl, hK11, hb11⟩; obtain ⟨A11, n11, c11, B11, m11, d11, l11, s11, rfl, hK11⟩ := kDsk_shape hK11; have hbx := below_then (below_drew (below_box (below_box (Below.refl _ _) (.cells #[.int .u8 bn] 5)) (.cells #[.slice none 0 0, .slice none 0 0, .int .i64 0, .bool false] 25))) hb11; have hbz := hb11; have hbl := ((Blk.new (w5.alloc (.cells #[.int .u8 bn] 5)) 25 [.slice none 0 0, .slice none 0 0, .int .i64 0, .bool false]).below (below_then (below_drew (Below.refl _ _)) hb11)); rw [World.size_alloc] at hbl; obtain ⟨⟨y1, y2, y3, y4⟩, y5, y6, y7, y8⟩ := hbl.facts4)))
          all_goals
            go_wp2
            go_meet
            first
              | (obtain ⟨G, hG, hG5, hG6⟩ := dv_new2 hK11 (fun e => HX5.out e.1) (fun e => HX6.out e.1) (Nat.lt_of_lt_of_le l5 ((below_drew (below_box (Below.refl w5.heap.size w5) (.cells #[.int .u8 bn] 5))).size)) (Nat.lt_of_lt_of_le l6 ((below_drew (below_box (Below.refl w5.heap.size w5) (.cells #[.int .u8 bn] 5))).size)); exact ⟨rfl, _, G, _, _, _, _, _, _, _, _, rfl, hG, hG5, hG6, hT5.out.below (below_box hbx _)⟩)
              | (obtain ⟨G, hG, hG5, hG6⟩ := dv_set2 hbl rfl hK11 (fun e => absurd e.2 (by omega)) (by show _ < (World.alloc (World.alloc w5 _) _).heap.size; rw [World.size_alloc, World.size_alloc]; omega) (fun e => HX5.out e.1) (fun e => HX6.out e.1) (Nat.lt_of_lt_of_le l5 ((below_drew (below_box (below_box (Below.refl w5.heap.size w5) _) _)).size)) (Nat.lt_of_lt_of_le l6 ((below_drew (below_box (below_box (Below.refl w5.heap.size w5) _) _)).size)); exact ⟨rfl, _, G, _, _, _, _, _, _, _, _, rfl, hG, hG5, hG6, hT5.out.below (below_set4 hbx (by omega) _ _ _ _)⟩)
        case rest =>
          obtain ⟨rfl, g10, F10, A10, n10, c10, B10, m10, d10, l10, s10, rfl, D10, H5, H6, hT6⟩ := hcut
          obtain ⟨ds, hds⟩ : ∃ y, syncD dw = y := ⟨_, rfl⟩
          obtain ⟨zs, hzs⟩ : ∃ y, syncE dw = y := ⟨_, rfl⟩
          rw [hds, hzs] at HSTEP
          have HDS := Lib.hid hds
          have HZS := Lib.hid hzs
          obtain ⟨l5', l6'⟩ := hT6.out.lt5
          clear hds hzs hT5 Dx HX5 HX6 ha2
          have f := D10.out.facts
          go_wp2_with fail
          refine (sync_as HDS.out HZS.out D10.out.k).mono ?_
          rintro e w12 ⟨cs12, rfl, hK12, hb12⟩
          obtain ⟨A12, n12, c12, B12, m12, d12, l12, s12, rfl, hK12⟩ := kDsk_shape hK12
          have hT7 := hT6.out.below hb12
          obtain ⟨Fy, Ay, ny, cy, By, my, dy, ly, sy, hDy, _, _⟩ := hT7.x
          have hT8 := hT7.setx hK12 (fut_out H5.out l5') (fut_out H6.out l6')
          obtain ⟨y1, y2, y3, y4⟩ := hDy.facts
          obtain ⟨y5, y6, y7, y8⟩ := hDy.frozen
          clear f hb12 hT7 hDy hK12 hT6 D10
          go_upto_region 9 with fail
          generalize ((((w12.setCell ⟨g5, 0, none⟩ (.slice A12 n12 c12)).setCell ⟨g5, 1, none⟩ (.slice B12 m12 d12)).setCell ⟨g5, 2, none⟩ (.int .i64 l12)).setCell ⟨g5, 3, none⟩ (.bool s12)) = w13 at hT8 ⊢
          have HT8 := Lib.hid hT8
          clear y1 y2 y3 y4 y5 y6 y7 y8 hT8
          go_wp2
          go_roundw
          case rel => exact ⟨i + 1, zs, by go_num, rfl, by omega, by rw [HSTEP.out]; exact Lib.hid rfl, by rw [HSTEP.out]; exact HT8⟩
          case measure => simp [intOf]; omega
      · have hout : (¬ i < na ∧ na ≤ i) ∨ (i < na ∧ ((z : Int) == 0) = false ∧ z ≠ 0) := by
          by_cases h1 : i < na
          · have h2 : z ≠ 0 := fun e => hgo ⟨h1, e⟩
            exact .inr ⟨h1, beq_eq_false_iff_ne.2 h2, h2⟩
          · exact .inl ⟨h1, by omega⟩
        obtain ⟨x, hx⟩ : ∃ x, (oneD n0 d (acts.take i)).1 = x := ⟨_, rfl⟩
        have HFIN : Hid (oneD n0 d acts = (x, z)) := by
          show _ = _
          rw [one_exit (i := i) (by rcases hout with h | h; exact .inl (by rw [HNA.out]; exact h.2); exact .inr (by rw [hz.out]; exact h.2.2)), ← hx, ← hz.out]
        rw [hx] at hT
        have HT := Lib.hid hT.out
        clear hgo hz hx hT
        rcases hout with ⟨h1, h2⟩ | ⟨h1, h2, h3⟩
        all_goals
          first | clear h3 | skip
          go_wp2_with fail
          go_loopw [12] (fun i' wr2 => ∃ j : Nat, i' = .int .i64 j ∧ j ≤ na ∧ Hid (TG w wr2 g5 g6 d x (manyD n0 d (acts.take j)) A0 n0 c0 B0 0 d0 l0 false)) (fun i' _ => na - (intOf i').toNat)
          case atStart => exact ⟨0, rfl, Nat.zero_le _, HT⟩
          case round =>
            obtain ⟨j, rfl, hj, hT⟩ := hrel
            clear h1 h2
            by_cases hin : j < na
            · have hin' : j < acts.length := by rw [HNA.out]; exact hin
              obtain ⟨ad, rfl, _, a1, a2⟩ := act_at (HA.out.below hT.out.bel) hin'
              obtain ⟨act, hact⟩ : ∃ a, acts[j] = a := ⟨_, rfl⟩
              rw [hact] at a1 a2
              have hW := together_many HR.out HPD.out EN0.out hn1 (l := acts.take j) (by rw [List.length_take]; have := HLA.out; omega) act
              have hstep : manyD n0 d (acts.take (j + 1)) = writeD (manyD n0 d (acts.take j)) (actAt n0 act) [act.byte] := by rw [List.take_succ_eq_append_getElem hin', many_snoc, hact]
              have hpn : act.pos.toNat ≤ 255 := by have := act.pos.toNat_lt; omega
              obtain ⟨pn, hpe⟩ : ∃ pn, act.pos.toNat = pn := ⟨_, rfl⟩
              obtain ⟨bn, hbe⟩ : ∃ bn, act.byte.toNat = bn := ⟨_, rfl⟩
              rw [hpe] at a1 hpn
              rw [hbe] at a2
              have hPA : actAt n0 act = (pn : Int) % (n0 : Int) := by unfold actAt; rw [hpe]; rfl
              rw [hPA] at hW hstep
              have HPI : Hid (I64 ((pn : Int) % (n0 : Int))) := by
                have h1 := Int.emod_nonneg (pn : Int) (show (n0 : Int) ≠ 0 by omega)
                have h2 := Int.emod_lt_of_pos (pn : Int) (show (0 : Int) < n0 by omega)
                show I64 _
                unfold I64; omega
              have HBE := Lib.hid hbe
              have hpi : (pn : Int) ≤ 255 := by omega
              obtain ⟨y, hy⟩ : ∃ y, manyD n0 d (acts.take j) = y := ⟨_, rfl⟩
              rw [hy] at hT hW hstep
              obtain ⟨dw, hdw⟩ : ∃ v, writeD y ((pn : Int) % (n0 : Int)) [act.byte] = v := ⟨_, rfl⟩
              rw [hdw] at hstep
              have HDW := Lib.hid hdw
              have HW := Lib.hid hW
              have HSTEP := Lib.hid hstep
              have HA1 := Lib.hid a1
              have HA2 := Lib.hid a2
              obtain ⟨w5, hw5⟩ : ∃ w5, wr = w5 := ⟨_, rfl⟩
              subst hw5
              have hT5 := Lib.hid hT.out
              have hlo : (0 : Int) ≤ (j : Int) := by omega
              have hhi : (j : Int) < (na : Int) := by omega
              have hq0 : ¬ n0 = 0 := by omega
              have hq1 : (pn : Int).tmod (n0 : Int) = (pn : Int) % (n0 : Int) := Int.tmod_eq_emod_of_nonneg (by omega)
              have hq3 : IntKind.i64.wrap (pn : Int) = (pn : Int) := IntWalk.i64_in _ (by omega)
              clear hpe hbe hact hPA hW hstep hdw hy hpn a1 a2 hT
              obtain ⟨Fx, Ax, nx, cx, Bx, mx, ddx, lx, sx, hDx, hx5, hx6⟩ := hT5.out.y
              obtain ⟨l5, l6⟩ := hT5.out.lt5
              have Dx := Lib.hid hDx
              have HX5 := Lib.hid hx5
              have HX6 := Lib.hid hx6
              clear hDx hx5 hx6
              go_wp2_with fail
              go_cut [13, 14] (fun s10 s11 wx => s11 = .int .i64 0 ∧ ∃ g10 F A n c B m d' l s, s10 = .pointer (some ⟨g10, 0, none⟩) ∧ Hid (DV wx F g10 dw A n c B m d' l s) ∧ Hid (¬ F g5) ∧ Hid (¬ F g6) ∧ Hid (TG w wx g5 g6 d x y A0 n0 c0 B0 0 d0 l0 false))
              case first =>
                have KEEP0 : Hid (∀ w', Below wr.heap.size wr w' → (fun w' => Below wr.heap.size wr w' ∧ ((w'.cell? ⟨g6, 0, none⟩ = some (.slice Ax nx cx) ∧ w'.cell? ⟨g6, 1, none⟩ = some (.slice Bx mx ddx) ∧ w'.cell? ⟨g6, 2, none⟩ = some (.int .i64 lx) ∧ w'.cell? ⟨g6, 3, none⟩ = some (.bool sx))) ∧ ((w'.cell? ⟨w.heap.size, 0, none⟩ = some (.slice A0 n0 c0) ∧ w'.cell? ⟨w.heap.size, 1, none⟩ = some (.slice B0 0 d0) ∧ w'.cell? ⟨w.heap.size, 2, none⟩ = some (.int .i64 l0) ∧ w'.cell? ⟨w.heap.size, 3, none⟩ = some (.bool false))) ∧ w'.cell? ⟨(ad.add (j * 3)).block, (ad.add (j * 3)).off + 1, none⟩ = some (.int .u8 pn) ∧ w'.cell? ⟨(ad.add (j * 3)).block, (ad.add (j * 3)).off + 2, none⟩ = some (.int .u8 bn)) w') := fun w' hb => ⟨hb, (Dx.out.below hb).facts, (hT5.out.d.below hb).facts, keepcell hb HA1.out, keepcell hb HA2.out⟩
                have KEEP1 := Lib.hid (KEEP0.out _ (below_drew (Below.refl _ _)))
                have SA := Lib.hid (one_sl (one_byte wr act.byte HBE.out) (below_drew (Below.refl _ _)))
                have hSB := one_sl (one_byte (wr.alloc (.cells #[.slice none 0 0, .slice none 0 0, .int .i64 0, .bool false] 25)) act.byte HBE.out) (below_drew (Below.refl _ _))
                rw [World.size_alloc] at hSB
                have SB := Lib.hid hSB
                have SC := Lib.hid (one_sl (one_byte wr act.byte HBE.out) (below_drew (below_box (Below.refl _ _) (.cells #[.slice none 0 0, .slice none 0 0, .int .i64 0, .bool false] 25))))
                clear hSB
                go_region_held3 (fun w' => Below wr.heap.size wr w' ∧ ((w'.cell? ⟨g6, 0, none⟩ = some (.slice Ax nx cx) ∧ w'.cell? ⟨g6, 1, none⟩ = some (.slice Bx mx ddx) ∧ w'.cell? ⟨g6, 2, none⟩ = some (.int .i64 lx) ∧ w'.cell? ⟨g6, 3, none⟩ = some (.bool sx))) ∧ ((w'.cell? ⟨w.heap.size, 0, none⟩ = some (.slice A0 n0 c0) ∧ w'.cell? ⟨w.heap.size, 1, none⟩ = some (.slice B0 0 d0) ∧ w'.cell? ⟨w.heap.size, 2, none⟩ = some (.int .i64 l0) ∧ w'.cell? ⟨w.heap.size, 3, none⟩ = some (.bool false))) ∧ w'.cell? ⟨(ad.add (j * 3)).block, (ad.add (j * 3)).off + 1, none⟩ = some (.int .u8 pn) ∧ w'.cell? ⟨(ad.add (j * 3)).block, (ad.add (j * 3)).off + 2, none⟩ = some (.int .u8 bn)) (first | exact KEEP1.out | exact KEEP0.out _ (by repeat (first | exact Below.refl _ _ | assumption | refine below_drew ?_ | refine below_box ?_ _ | refine below_set4 ?_ (by omega) _ _ _ _))) (first | (((with_reducible refine (write_as (w := (wr.alloc (.cells #[.int .u8 bn] 5)).drew) (b := [act.byte]) (m := 1) HDW.out HW.out rfl (Kd.below (kd_now Dx.out.k) (below_drew (below_box (Below.refl _ _) (.cells #[.int .u8 bn] 5)))) HPI.out SA.out).mono ?_); rintro e w11 ⟨cs11, rfl, hK11, hb11⟩; obtain ⟨A11, n11, c11, B11, m11, d11, l11, s11, rfl, hK11⟩ := kDsk_shape hK11; have hbx := below_then (below_drew (below_box (Below.refl _ _) (.cells #[.int .u8 bn] 5))) hb11; have hbz := hb11; skip)) | (((with_reducible refine (write_as (w := ((wr.alloc (.cells #[.slice none 0 0, .slice none 0 0, .int .i64 0, .bool false] 25)).alloc (.cells #[.int .u8 bn] 5)).drew) (b := [act.byte]) (m := 1) HDW.out HW.out rfl (Kd.below (kd_now Dx.out.k) (below_drew (below_box (below_box (Below.refl _ _) (.cells #[.slice none 0 0, .slice none 0 0, .int .i64 0, .bool false] 25)) (.cells #[.int .u8 bn] 5)))) HPI.out SB.out).mono ?_); rintro e w11 ⟨cs11, rfl, hK11, hb11⟩; obtain ⟨A11, n11, c11, B11, m11, d11, l11, s11, rfl, hK11⟩ := kDsk_shape hK11; have hbx := below_then (below_drew (below_box (below_box (Below.refl _ _) (.cells #[.slice none 0 0, .slice none 0 0, .int .i64 0, .bool false] 25)) (.cells #[.int .u8 bn] 5))) hb11; have hbz := hb11; have hbl := ((Blk.new wr 25 [.slice none 0 0, .slice none 0 0, .int .i64 0, .bool false]).below (below_then (below_drew (below_box (Below.refl _ _) (.cells #[.int .u8 bn] 5))) hb11)); obtain ⟨⟨y1, y2, y3, y4⟩, y5, y6, y7, y8⟩ := hbl.facts4)) | (((with_reducible refine (write_as (w := ((wr.alloc (.cells #[.int .u8 bn] 5)).alloc (.cells #[.slice none 0 0, .slice none 0 0, .int .i64 0, .bool false] 25)).drew) (b := [act.byte]) (m := 1) HDW.out HW.out rfl (Kd.below (kd_now Dx.out.k) (below_drew (below_box (below_box (Below.refl _ _) (.cells #[.int .u8 bn] 5)) (.cells #[.slice none 0 0, .slice none 0 0, .int .i64 0, .bool false] 25)))) HPI.out SC.out).mono ?_); rintro e w11 ⟨cs11, rfl, hK11, hb11⟩; obtain ⟨A11, n11, c11, B11, m11, d11, l11, s11, rfl, hK11⟩ := kDsk_shape hK11; have hbx := below_then (below_drew (below_box (below_box (Below.refl _ _) (.cells #[.int .u8 bn] 5)) (.cells #[.slice none 0 0, .slice none 0 0, .int .i64 0, .bool false] 25))) hb11; have hbz := hb11; have hbl := ((Blk.new (wr.alloc (.cells #[.int .u8 bn] 5)) 25 [.slice none 0 0, .slice none 0 0, .int .i64 0, .bool false]).below (below_then (below_drew (Below.refl _ _)) hb11)); rw [World.size_alloc] at hbl; obtain ⟨⟨y1, y2, y3, y4⟩, y5, y6, y7, y8⟩ := hbl.facts4)))
                all_goals
                  go_wp2
                  go_meet
                  first
                    | (obtain ⟨G, hG, hG5, hG6⟩ := dv_new2 hK11 (fun e => HX5.out e.1) (fun e => HX6.out e.1) (Nat.lt_of_lt_of_le l5 ((below_drew (below_box (Below.refl wr.heap.size wr) (.cells #[.int .u8 bn] 5))).size)) (Nat.lt_of_lt_of_le l6 ((below_drew (below_box (Below.refl wr.heap.size wr) (.cells #[.int .u8 bn] 5))).size)); exact ⟨rfl, _, G, _, _, _, _, _, _, _, _, rfl, hG, hG5, hG6, hT5.out.below (below_box hbx _)⟩)
                    | (obtain ⟨G, hG, hG5, hG6⟩ := dv_set2 hbl rfl hK11 (fun e => absurd e.2 (by omega)) (by show _ < (World.alloc (World.alloc wr _) _).heap.size; rw [World.size_alloc, World.size_alloc]; omega) (fun e => HX5.out e.1) (fun e => HX6.out e.1) (Nat.lt_of_lt_of_le l5 ((below_drew (below_box (below_box (Below.refl wr.heap.size wr) _) _)).size)) (Nat.lt_of_lt_of_le l6 ((below_drew (below_box (below_box (Below.refl wr.heap.size wr) _) _)).size)); exact ⟨rfl, _, G, _, _, _, _, _, _, _, _, rfl, hG, hG5, hG6, hT5.out.below (below_set4 hbx (by omega) _ _ _ _)⟩)
              case rest =>
                obtain ⟨rfl, g10, F10, A10, n10, c10, B10, m10, d10, l10, s10, rfl, D10, H5, H6, hT6⟩ := hcut
                clear hT5 Dx HX5 HX6 HA1 HA2
                obtain ⟨w12, hw12⟩ := hT6.out.world
                subst hw12
                obtain ⟨Fy, Ay, ny, cy, By, my, dy, ly, sy, hDy, _, _⟩ := hT6.out.y
                have hT8 := hT6.out.sety D10.out.k H5.out H6.out
                obtain ⟨y1, y2, y3, y4⟩ := hDy.facts
                obtain ⟨y5, y6, y7, y8⟩ := hDy.frozen
                have f := D10.out.facts
                clear hDy hT6 D10
                go_upto_region 17 with fail
                generalize ((((w12.setCell ⟨g6, 0, none⟩ (.slice A10 n10 c10)).setCell ⟨g6, 1, none⟩ (.slice B10 m10 d10)).setCell ⟨g6, 2, none⟩ (.int .i64 l10)).setCell ⟨g6, 3, none⟩ (.bool s10)) = w13 at hT8 ⊢
                have HT8 := Lib.hid hT8
                clear y1 y2 y3 y4 y5 y6 y7 y8 hT8 f
                go_wp2
                go_roundw
                case rel => exact ⟨j + 1, by go_num, by omega, by rw [HSTEP.out]; exact HT8⟩
                case measure => simp [intOf]; omega
            · obtain rfl : j = na := by omega
              have hT1 := hT.out
              rw [List.take_of_length_le (by rw [HNA.out]; exact Nat.le_refl _)] at hT1
              have hone := one_eq acts d HR.out HPD.out EN0.out hn1 (by have := HLA.out; omega)
              rw [HFIN.out] at hone
              obtain ⟨M, hM⟩ : ∃ M, manyD n0 d acts = M := ⟨_, rfl⟩
              rw [hM] at hone hT1
              have HE1 : Hid (syncD M = x) := by injection hone with e1 _; exact e1.symm
              have HE2 : Hid (syncE M = z) := by injection hone with _ e2; exact e2.symm
              have HT1 := Lib.hid hT1
              clear hone hM hT1 hT
              obtain ⟨Fx, Ax, nx, cx, Bx, mx, ddx, lx, sx, hDx, hx5, hx6⟩ := HT1.out.y
              obtain ⟨l5, l6⟩ := HT1.out.lt5
              have Dx := Lib.hid hDx
              clear hDx
              have f := Dx.out.facts
              go_wp2_with fail
              refine (sync_as HE1.out HE2.out Dx.out.k).mono ?_
              rintro e w12 ⟨cs12, rfl, hK12, hb12⟩
              obtain ⟨A12, n12, c12, B12, m12, d12, l12, s12, rfl, hK12⟩ := kDsk_shape hK12
              have hT8 := (HT1.out.below hb12).sety hK12 (fut_out hx5 l5) (fut_out hx6 l6)
              obtain ⟨y1, y2, y3, y4⟩ := (Dx.out.below hb12).facts
              obtain ⟨y5, y6, y7, y8⟩ := (Dx.out.below hb12).frozen
              clear f hb12 hK12
              go_upto_region 23 with fail
              generalize ((((w12.setCell ⟨g6, 0, none⟩ (.slice A12 n12 c12)).setCell ⟨g6, 1, none⟩ (.slice B12 m12 d12)).setCell ⟨g6, 2, none⟩ (.int .i64 l12)).setCell ⟨g6, 3, none⟩ (.bool s12)) = w13 at hT8 ⊢
              clear y1 y2 y3 y4 y5 y6 y7 y8
              obtain ⟨Fa, Aa, na', ca, Ba, ma, da, la, sa, hDa, _, _⟩ := hT8.x
              obtain ⟨Fb, Ab, nb, cb, Bb, mb, db, lb, sb, hDb, _, _⟩ := hT8.y
              have DA := Lib.hid hDa
              have DB := Lib.hid hDb
              have HT8 := Lib.hid hT8
              have f := DA.out.facts
              have g := DB.out.facts
              clear hDa hDb hT8
              go_wp2_with fail
              refine (dsame_as DA.out.k DB.out.k).mono ?_
              rintro e w14 ⟨rfl, hb14⟩
              have HBE := Lib.hid (below_then HT8.out.bel hb14)
              clear f g hb14
              go_wp2
              go_ret
              exact Says.of rfl HBE.out
end Go.Proofs.Ytmcdimcjmafaoaa.B
