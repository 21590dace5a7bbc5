/- DiskReads answers true. -/
import Derived.Test.YtmcdimcjmafaoaaDLawStopped
import Derived.Test.YtmcdimcjmafaoaaDPure
import Derived.BigQuiet
import Derived.Deep.QuietTactic
namespace Go.Proofs.Ytmcdimcjmafaoaa.B
set_option linter.unusedVariables false
set_option linter.unusedSimpArgs false
open Go.RowKit

/-- What DiskReads leans on, once the first write has gone through. -/
theorem reads_first {d : Dsk} {p q : Int} {b : List UInt8} (hE : readE d q = 0) (hW : writeE d p b = 0) :
    readE (writeD d p b) q = 0 ∧ readE (writeD d p b) p = 0 ∧ readD (writeD d p b) p = pad b ∧ (p ≠ q → readD (writeD d p b) q = readD d q) ∧ (readD (writeD d p b) q).length = 128 ∧ (pad b).length = 128 := by
  have hq := (readE_ok.1 hE).2
  obtain ⟨h1, h2, h3, h4⟩ := writeE_ok.1 hW
  have e1 := write_readE hW hq
  refine ⟨e1, write_readE hW h2, by rw [write_read hW h2, if_pos rfl], fun hne => by rw [write_read hW hq, if_neg hne], read_len e1, length_pad h3⟩
theorem reads_second {d : Dsk} {p q : Int} {b c : List UInt8} (hE : readE d q = 0) (hW : writeE d p b = 0) (hc : c.length ≤ 128) : writeE (writeD d p b) q c = 0 ∨ writeE (writeD d p b) q c = 2 :=
  writeE_lim (write_runs hW) (by rw [write_has hW]; exact (readE_ok.1 hE).2) hc
theorem reads_sync {y : Dsk} (h : y.runs = true) : syncE y = 0 ∨ (syncE y = 470 ∧ (syncD y).stop = true) := by
  by_cases h0 : syncE y = 0
  · exact .inl h0
  · exact .inr (sync_stop h h0)
set_option maxRecDepth 100000 in
set_option maxHeartbeats 4000000 in
theorem readsLaw_calls {d : Dsk} {p q : Int} {b c : List UInt8} {w : World} {cs : List Value} {Ab Ac : Option Addr} {cb cc : Nat} (hK0 : kDsk.K w (Old w) d cs) (hp : I64 p) (hq : I64 q) (hb : SL kU8 w (Old w) Ab cb b) (hc : SL kU8 w (Old w) Ac cc c) :
    Calls Try.prog 7 #[.agg cs.toArray, .int .i64 p, .int .i64 q, .slice Ab b.length cb, .slice Ac c.length cc] w (Says (.bool true) w) := by
  obtain ⟨A0, n0, c0, B0, m0, d0, l0, s0, rfl, hK0⟩ := kDsk_shape hK0
  have HP := Lib.hid hp
  have HQ := Lib.hid hq
  have HBS := Lib.hid hb
  have HCS := Lib.hid hc
  obtain ⟨nb, hnb⟩ : ∃ nb, b.length = nb := ⟨_, rfl⟩
  obtain ⟨nc, hnc⟩ : ∃ nc, c.length = nc := ⟨_, rfl⟩
  have hbl := Nat.le_trans hb.le hb.max
  have hcl := Nat.le_trans hc.le hc.max
  unfold maxLen at hbl hcl
  rw [hnb] at hbl ⊢
  rw [hnc] at hcl ⊢
  have HNB := Lib.hid hnb
  have HNC := Lib.hid hnc
  obtain ⟨hs0, hp0, hl0, en0, em0, el0, es0⟩ := kDsk_rows hK0
  have hnl := Nat.le_trans hs0.le hs0.max
  unfold maxLen at hnl
  rw [← en0] at hnl
  have EN0 := Lib.hid en0
  obtain ⟨F0, D0⟩ : ∃ F, Hid (DV (w.alloc (.cells #[.slice A0 n0 c0, .slice B0 m0 d0, .int .i64 l0, .bool s0] 25)) F w.heap.size d A0 n0 c0 B0 m0 d0 l0 s0) := ⟨_, DV.new hK0⟩
  have HB0 := Lib.hid (below_box (Below.refl w.heap.size w) (.cells #[.slice A0 n0 c0, .slice B0 m0 d0, .int .i64 l0, .bool s0] 25))
  clear hK0 hb hc hnb hnc hs0 en0 hp hq hp0 hl0 em0 el0 es0
  go_enter Try.func7, Try.ntmps7
  go_wp2_with fail
  refine sane47_calls.mono ?_
  rintro e w1 ⟨rfl, hb1⟩
  have D1 := Lib.hid (D0.out.below hb1)
  have HB1 := Lib.hid (below_then HB0.out hb1)
  clear hb1 D0 HB0
  have f := D1.out.facts
  go_wp2_with fail
  refine (dfew_calls D1.out.k).mono ?_
  rintro e w2 ⟨qf, rfl, hb2⟩
  have D2 := Lib.hid (D1.out.below hb2)
  have HB2 := Lib.hid (below_then HB1.out hb2)
  clear hb2 f D1 HB1
  cases qf
  · go_wp2
    go_ret
    exact Says.of rfl HB2.out
  by_cases hbig : 128 < nb
  · go_wp2
    go_ret
    exact Says.of rfl HB2.out
  by_cases hbig2 : 128 < nc
  · go_wp2
    go_ret
    exact Says.of rfl HB2.out
  obtain ⟨xb, hxb⟩ : ∃ x, readD d q = x := ⟨_, rfl⟩
  obtain ⟨mb, hmb⟩ : ∃ x, xb.length = x := ⟨_, rfl⟩
  obtain ⟨ze, hze⟩ : ∃ x, readE d q = x := ⟨_, rfl⟩
  obtain ⟨dx, hdx⟩ : ∃ x, writeD d p b = x := ⟨_, rfl⟩
  obtain ⟨zf, hzf⟩ : ∃ x, writeE d p b = x := ⟨_, rfl⟩
  have HXB := Lib.hid hxb
  have HMB := Lib.hid hmb
  have HZE := Lib.hid hze
  have HDX := Lib.hid hdx
  have HZF := Lib.hid hzf
  clear hxb hmb hze hdx hzf
  have f := D2.out.facts
  go_wp2_with fail
  refine (read_is HXB.out HZE.out HMB.out D2.out.k HQ.out).mono ?_
  rintro e w5 ⟨A5, c5, rfl, hs5, hb5⟩
  have HS5 := Lib.hid hs5
  have D3 := Lib.hid (D2.out.below hb5)
  have HB5 := Lib.hid (below_then HB2.out hb5)
  clear hs5 hb5 f D2 HB2
  have f := D3.out.facts
  go_wp2_with fail
  refine (write_as HDX.out HZF.out HNB.out D3.out.k HP.out (HBS.out.old HB5.out)).mono ?_
  rintro e w6 ⟨cs6, rfl, hK6, hb6⟩
  obtain ⟨A6, n6, c6, B6, m6, d6, l6, s6, rfl, hK6⟩ := kDsk_shape hK6
  obtain ⟨F6, D6⟩ : ∃ F, Hid (DV (w6.alloc (.cells #[.slice A6 n6 c6, .slice B6 m6 d6, .int .i64 l6, .bool s6] 25)) F w6.heap.size dx A6 n6 c6 B6 m6 d6 l6 s6) := ⟨_, DV.new hK6⟩
  have hx6 := below_box hb6 (.cells #[.slice A6 n6 c6, .slice B6 m6 d6, .int .i64 l6, .bool s6] 25)
  have D4 := Lib.hid (D3.out.below hx6)
  have HS6 := Lib.hid (HS5.out.below hx6)
  have HB6 := Lib.hid (below_then HB5.out hx6)
  clear hK6 hb6 hx6 f D3 HB5 HS5
  by_cases he : ze = 0
  case neg =>
    have hk : (ze != 0) = true := bne_iff_ne.2 he
    clear he
    go_wp2
    go_ret
    exact Says.of rfl HB6.out
  subst he
  by_cases hf : zf = 0
  case neg =>
    have hk : (zf != 0) = true := bne_iff_ne.2 hf
    clear hf
    go_wp2
    go_ret
    exact Says.of rfl HB6.out
  subst hf
  have h1 := reads_first HZE.out HZF.out
  rw [HDX.out] at h1
  have H1 := Lib.hid h1
  clear h1
  obtain ⟨xa, hxa⟩ : ∃ x, readD dx q = x := ⟨_, rfl⟩
  have HXA := Lib.hid hxa
  have HMA : Hid (xa.length = 128) := by show xa.length = 128; rw [← hxa]; exact H1.out.2.2.2.2.1
  have HPQ : Hid (p ≠ q → xa = xb) := fun h => by rw [← hxa, ← HXB.out]; exact H1.out.2.2.2.1 h
  clear hxa
  have f := D6.out.facts
  go_wp2_with fail
  refine (read_is HXA.out H1.out.1 HMA.out D6.out.k HQ.out).mono ?_
  rintro e w7 ⟨A7, c7, rfl, hs7, hb7⟩
  have HS7 := Lib.hid hs7
  have D6a := Lib.hid (D6.out.below hb7)
  have D4a := Lib.hid (D4.out.below hb7)
  have HS6a := Lib.hid (HS6.out.below hb7)
  have HB7 := Lib.hid (below_then HB6.out hb7)
  clear hs7 hb7 f D6 D4 HS6 HB6
  have f := D6a.out.facts
  go_wp2_with fail
  refine (read_is H1.out.2.2.1 H1.out.2.1 H1.out.2.2.2.2.2 D6a.out.k HP.out).mono ?_
  rintro e w8 ⟨A8, c8, rfl, hs8, hb8⟩
  have HS8 := Lib.hid hs8
  have hc8 : Hid (128 ≤ c8) := by show 128 ≤ c8; have := hs8.le; rw [H1.out.2.2.2.2.2] at this; exact this
  have hc8m := hs8.max
  unfold maxLen at hc8m
  have D6b := Lib.hid (D6a.out.below hb8)
  have D4b := Lib.hid (D4a.out.below hb8)
  have HS6b := Lib.hid (HS6a.out.below hb8)
  have HS7b := Lib.hid (HS7.out.below hb8)
  have HB8 := Lib.hid (below_then HB7.out hb8)
  clear hs8 hb8 f D6a D4a HS6a HS7 HB7
  go_upto_region 11 with fail
  go_cut [106] (fun s106 wx => s106 = .bool false ∧ Hid (Below w8.heap.size w8 wx))
  case first =>
    have hnb8 : (nb : Int) ≤ (c8 : Int) := by have := hc8.out; omega
    have u1 : ∀ n, (convert 35 9 (.slice A8 nb c8)).run Try.prog (w8.drewN n) = .ok (.string ⟨b.toArray⟩) (w8.drewN n) := fun n => by
      have h := (HS8.out.below (below_drewN (Below.refl _ _) n)).take (k := nb) (c' := c8) (by rw [H1.out.2.2.2.2.2]; omega) (by have := hc8.out; omega) (Nat.le_refl _)
      have e : (pad b).take nb = b := by rw [← HNB.out]; exact pad_take b
      rw [e] at h
      exact SL.str h HNB.out.symm
    have u2 : ∀ n, (convert 35 9 (.slice Ab nb cb)).run Try.prog (w8.drewN n) = .ok (.string ⟨b.toArray⟩) (w8.drewN n) := fun n => SL.str (HBS.out.below (below_then HB8.out (below_drewN (Below.refl _ _) n))) HNB.out.symm
    have u3 : ∀ n, (convert 35 9 (.slice A5 mb c5)).run Try.prog (w8.drewN n) = .ok (.string ⟨xb.toArray⟩) (w8.drewN n) := fun n => SL.str (HS6b.out.below (below_drewN (Below.refl _ _) n)) HMB.out.symm
    by_cases hpq : p = q
    · have hk : (p != q) = false := by rw [hpq]; simp
      have u4 : ∀ n, (convert 35 9 (.slice A7 128 c7)).run Try.prog (w8.drewN n) = .ok (.string ⟨xa.toArray⟩) (w8.drewN n) := fun n => SL.str (HS7b.out.below (below_drewN (Below.refl _ _) n)) HMA.out.symm
      clear hpq
      go_quiet (fail)
      go_wp2
      go_meet
      exact ⟨rfl, below_drewN (Below.refl _ _) _⟩
    · have hk : (p != q) = true := bne_iff_ne.2 hpq
      have u4 : ∀ n, (convert 35 9 (.slice A7 128 c7)).run Try.prog (w8.drewN n) = .ok (.string ⟨xb.toArray⟩) (w8.drewN n) := fun n => by
        have h := SL.str (HS7b.out.below (below_drewN (Below.refl _ _) n)) HMA.out.symm
        rw [HPQ.out hpq] at h
        exact h
      clear hpq
      go_quiet (fail)
      go_wp2
      go_meet
      exact ⟨rfl, below_drewN (Below.refl _ _) _⟩
  case rest =>
    obtain ⟨rfl, hcb⟩ := hcut
    rename_i w9
    have D6c := Lib.hid (D6b.out.below hcb.out)
    have D4c := Lib.hid (D4b.out.below hcb.out)
    have HB9 := Lib.hid (below_then HB8.out hcb.out)
    clear D6b D4b HS6b HS7b HS8 HB8 hc8 hc8m hcb
    obtain ⟨dy, hdy⟩ : ∃ x, writeD dx q c = x := ⟨_, rfl⟩
    obtain ⟨zy, hzy⟩ : ∃ x, writeE dx q c = x := ⟨_, rfl⟩
    have hcase : zy = 0 ∨ zy = 2 := by
      have h := reads_second HZE.out HZF.out (c := c) (by rw [HNC.out]; omega)
      rw [HDX.out, hzy] at h
      exact h
    have HDY := Lib.hid hdy
    have HZY := Lib.hid hzy
    have HCASE := Lib.hid hcase
    clear hdy hzy hcase
    have f := D6c.out.facts
    go_wp2_with fail
    refine (write_as HDY.out HZY.out HNC.out D6c.out.k HQ.out (HCS.out.old HB9.out)).mono ?_
    rintro e w10 ⟨cs10, rfl, hK10, hb10⟩
    obtain ⟨A10, n10, c10, B10, m10, d10, l10, s10, rfl, hK10⟩ := kDsk_shape hK10
    obtain ⟨F10, D10⟩ : ∃ F, Hid (DV (w10.alloc (.cells #[.slice A10 n10 c10, .slice B10 m10 d10, .int .i64 l10, .bool s10] 25)) F w10.heap.size dy A10 n10 c10 B10 m10 d10 l10 s10) := ⟨_, DV.new hK10⟩
    have hx10 := below_box hb10 (.cells #[.slice A10 n10 c10, .slice B10 m10 d10, .int .i64 l10, .bool s10] 25)
    have D4d := Lib.hid (D4c.out.below hx10)
    have HB10 := Lib.hid (below_then HB9.out hx10)
    clear hK10 hb10 hx10 f D6c D4c HB9
    rcases HCASE.out with hz | hz
    case inr =>
      subst hz
      go_wp2
      go_ret
      exact Says.of rfl HB10.out
    subst hz
    have hyr : Hid (dy.runs = true) := by show dy.runs = true; rw [← HDY.out]; exact write_runs HZY.out
    have hyl : Hid (dy.secs.length = n0) := by
      show dy.secs.length = n0
      rw [← HDY.out, writeD_eq HZY.out, ← HDX.out, writeD_eq HZF.out]
      exact EN0.out.symm
    obtain ⟨dz, hdz⟩ : ∃ x, syncD dy = x := ⟨_, rfl⟩
    have HDZ := Lib.hid hdz
    have hstop : dz.stop = true ∨ syncE dy = 0 := by
      rcases reads_sync hyr.out with h | h
      · exact .inr h
      · exact .inl (by rw [← hdz]; exact h.2)
    have f := D10.out.facts
    obtain ⟨zz, hzz⟩ : ∃ x, syncE dy = x := ⟨_, rfl⟩
    have HZZ := Lib.hid hzz
    have hcs : zz = 0 ∨ (zz = 470 ∧ dz.stop = true) := by
      rcases reads_sync hyr.out with h | h
      · exact .inl (by rw [← hzz]; exact h)
      · exact .inr ⟨by rw [← hzz]; exact h.1, by rw [← hdz]; exact h.2⟩
    have HCS2 := Lib.hid hcs
    clear hstop hdz hzz hcs
    go_wp2_with fail
    refine (sync_as HDZ.out HZZ.out D10.out.k).mono ?_
    rintro e w11 ⟨cs11, rfl, hK11, hb11⟩
    obtain ⟨A11, n11, c11, B11, m11, d11, l11, s11, rfl, hK11, en11, em11, el11, es11⟩ := kDsk_parts hK11
    have EM11 := Lib.hid em11
    have ES11 := Lib.hid es11
    clear en11 em11 el11 es11
    obtain ⟨F11, D11⟩ : ∃ F, Hid (DV (w11.alloc (.cells #[.slice A11 n11 c11, .slice B11 m11 d11, .int .i64 l11, .bool s11] 25)) F w11.heap.size dz A11 n11 c11 B11 m11 d11 l11 s11) := ⟨_, DV.new hK11⟩
    have hx11 := below_box hb11 (.cells #[.slice A11 n11 c11, .slice B11 m11 d11, .int .i64 l11, .bool s11] 25)
    have D4e := Lib.hid (D4d.out.below hx11)
    have D10a := Lib.hid (D10.out.below hx11)
    have HB11 := Lib.hid (below_then HB10.out hx11)
    clear hK11 hb11 hx11 f D10 D4d HB10
    rcases HCS2.out with hz | ⟨hz, hst⟩
    case inr =>
      subst hz
      have hs11 : s11 = true := ES11.out.trans hst
      clear hst
      subst hs11
      have f := D11.out.facts
      go_wp2
      go_ret
      exact Says.of rfl HB11.out
    subst hz
    have hm11 : 0 = m11 := by have h := EM11.out; rw [← HDZ.out, sync_pend] at h; exact h.symm
    subst hm11
    have HZC : Hid (checkD dz = 0) := checkD_ok ((runs_iff _).1 (by rw [← HDZ.out]; exact sync_runs HZZ.out)).1
    have HRD : Hid (∀ k : Nat, k < n0 → readE dy k = 0 ∧ readE dz k = 0 ∧ readD dz k = readD dy k) := fun k hk => by
      have := sync_read (d := dy) HZZ.out (k := k) (by rw [hyl.out]; exact hk)
      rw [HDZ.out] at this
      exact this
    have f := D4e.out.facts
    go_wp2_with fail
    obtain ⟨w12, hw12⟩ : ∃ w12, w11.alloc (.cells #[.slice A11 n11 c11, .slice B11 0 d11, .int .i64 l11, .bool s11] 25) = w12 := ⟨_, rfl⟩
    rw [hw12] at D11 D4e D10a HB11 f ⊢
    clear hw12
    generalize w11.heap.size = g11 at *
    generalize w10.heap.size = g10 at *
    go_loopw [23] (fun i' wr => ∃ i : Nat, i' = .int .i64 i ∧ i ≤ n0 ∧ Hid (Below w12.heap.size w12 wr)) (fun i' _ => n0 - (intOf i').toNat)
    case atStart => exact ⟨0, rfl, Nat.zero_le _, Below.refl _ _⟩
    case round =>
      obtain ⟨i, rfl, hi, hbr⟩ := hrel
      clear f
      have D4f := Lib.hid (D4e.out.below hbr.out)
      have f := D4f.out.facts
      by_cases hin : i < n0
      · have hr := HRD.out i hin
        obtain ⟨xk, hxk⟩ : ∃ x, readD dy i = x := ⟨_, rfl⟩
        have HXK := Lib.hid hxk
        have HXZ : Hid (readD dz i = xk) := by show _ = _; rw [← hxk]; exact hr.2.2
        have HML : Hid (xk.length = 128) := by show _ = _; rw [← hxk]; exact read_len hr.1
        have HE1 := Lib.hid hr.1
        have HE2 := Lib.hid hr.2.1
        have HII : Hid (I64 (i : Int)) := by show I64 _; unfold I64; omega
        clear hr hxk
        have D10b := Lib.hid (D10a.out.below hbr.out)
        have g := D10b.out.facts
        go_wp2_with fail
        refine (read_is HXK.out HE1.out HML.out D10b.out.k HII.out).mono ?_
        rintro e w13 ⟨A13, c13, rfl, hs13, hb13⟩
        have HS13 := Lib.hid hs13
        have HB13 := Lib.hid (below_then hbr.out hb13)
        have D11b := Lib.hid (D11.out.below HB13.out)
        clear f g hs13 hb13
        have g := D11b.out.facts
        go_wp2_with fail
        refine (read_is HXZ.out HE2.out HML.out D11b.out.k HII.out).mono ?_
        rintro e w14 ⟨A14, c14, rfl, hs14, hb14⟩
        have u1 := SL.str (HS13.out.below hb14) HML.out.symm
        have u2 := SL.str hs14 HML.out.symm
        have HB14 := Lib.hid (below_then HB13.out hb14)
        clear g hs14 hb14
        go_wp2
        go_roundw
        case rel => exact ⟨i + 1, by go_num, by omega, HB14⟩
        case measure => simp [intOf]; omega
      · obtain rfl : i = n0 := by omega
        have D11b := Lib.hid (D11.out.below hbr.out)
        have g := D11b.out.facts
        go_wp2_with fail
        refine (check_as HZC.out D11b.out.k).mono ?_
        rintro e w13 ⟨rfl, hb13⟩
        have HBE := Lib.hid (below_then HB11.out (below_then hbr.out hb13))
        clear f g hb13
        go_wp2
        go_ret
        exact Says.of rfl HBE.out
end Go.Proofs.Ytmcdimcjmafaoaa.B
