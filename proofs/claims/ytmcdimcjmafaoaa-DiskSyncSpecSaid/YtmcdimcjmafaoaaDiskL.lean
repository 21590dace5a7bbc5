import Derived.Test.YtmcdimcjmafaoaaDiskK
namespace Go.Proofs.Ytmcdimcjmafaoaa.B
set_option linter.unusedVariables false
set_option linter.unusedSimpArgs false
open Go.RowKit

def lenOf : Value → Nat
  | .slice _ n _ => n
  | _ => 0
theorem pad_of {b : List UInt8} {n : Nat} (h : (b ++ List.replicate n (0 : UInt8)).length = 128) : b ++ List.replicate n 0 = pad b := by
  rw [List.length_append, List.length_replicate] at h
  unfold pad
  rw [show 128 - b.length = n by omega]
set_option maxRecDepth 100000 in
set_option maxHeartbeats 2000000 in
theorem rwrite_calls {d : Dsk} {p : Int} {b : List UInt8} {w : World} {cs : List Value} {Ab : Option Addr} {cb : Nat} (h : kDsk.K w (Old w) d cs) (hp : I64 p) (hb : SL kU8 w (Old w) Ab cb b) :
    Calls Try.prog 20 #[.agg cs.toArray, .int .i64 p, .slice Ab b.length cb] w (DskE (writeD d p b) (writeE d p b) w) := by
  have H := Lib.hid h
  obtain ⟨A, c, A', c', rfl, hs, hpe, hl⟩ := kDsk_open h
  have HS := Lib.hid hs
  have HP := Lib.hid hpe
  have HI := Lib.hid hp
  have HL := Lib.hid hl
  have HBS := Lib.hid hb
  have hbm := Nat.le_trans hb.le hb.max
  have hsm := Nat.le_trans hs.le hs.max
  unfold maxLen at hbm hsm
  obtain ⟨p1, p2⟩ := hp
  clear h hs hpe hb hl
  obtain ⟨d0, hd0⟩ : ∃ d0 : Dsk, d0 = d := ⟨_, rfl⟩
  have HRC := runs_cases d
  have HHS : d.has p = (decide (0 ≤ p) && decide (p < (d.secs.length : Int))) := rfl
  have HD0 := Lib.hid hd0
  obtain ⟨secs, pend, left, stop⟩ := d
  clear hd0
  simp only at hsm HS HP HL H HRC HHS ⊢
  have HB := Lib.hid ((dsk_box w ⟨secs, pend, left, stop⟩ A A' c c').below (below_box (Below.refl _ _) (.cells #[.slice none 0 0, .slice none 0 0, .int .i64 0, .bool false] 25)))
  have HV := Lib.hid (Blk.new (w.alloc (.cells #[.slice A secs.length c, .slice A' pend.length c', .int .i64 left, .bool stop] 25)) 25 [.slice none 0 0, .slice none 0 0, .int .i64 0, .bool false])
  rw [World.size_alloc] at HV
  have HBW : Below w.heap.size w ((w.alloc (.cells #[.slice A secs.length c, .slice A' pend.length c', .int .i64 left, .bool stop] 25)).alloc (.cells #[.slice none 0 0, .slice none 0 0, .int .i64 0, .bool false] 25)) := below_box (below_box (Below.refl _ _) _) _
  simp only at HB
  obtain ⟨⟨f1, f2, f3, f4⟩, _⟩ := HB.out.facts4
  rcases HRC with ⟨hr, hz⟩ | ⟨hr, hz, hst'⟩ | ⟨hr, hz, hst'⟩
  · have HZ := Lib.hid hz
    have HE := Lib.hid (writeE_no (b := b) (p := p) (d := ⟨secs, pend, left, stop⟩) (by rw [hr]; rfl))
    clear hr hz HHS
    go_enter Try.func20, Try.ntmps20
    go_wp2_with fail
    refine (rcheckD_as HZ.out (Kd.old H.out HBW)).mono ?_
    rintro e w1 ⟨rfl, hb1⟩
    obtain ⟨⟨e1, e2, e3, e4⟩, e5, e6, e7, e8⟩ := (HB.out.below hb1).facts4
    obtain ⟨⟨g1, g2, g3, g4⟩, g5, g6, g7, g8⟩ := (HV.out.below hb1).facts4
    go_wp2
    rw [HE.out.1, HE.out.2]
    exact dskE_leave rfl (HV.out.below hb1) rfl (kZeroD _ (fun _ => False)) (fun h => h) (below_then HBW hb1) (by omega) rfl rfl
  · have HZ := Lib.hid hz
    have HE := Lib.hid (writeE_no (b := b) (p := p) (d := ⟨secs, pend, left, stop⟩) (by rw [hr]; rfl))
    subst hst'
    clear hr hz HHS
    go_enter Try.func20, Try.ntmps20
    go_wp2_with fail
    refine (rcheckD_as HZ.out (Kd.old H.out HBW)).mono ?_
    rintro e w1 ⟨rfl, hb1⟩
    obtain ⟨⟨e1, e2, e3, e4⟩, e5, e6, e7, e8⟩ := (HB.out.below hb1).facts4
    obtain ⟨⟨g1, g2, g3, g4⟩, g5, g6, g7, g8⟩ := (HV.out.below hb1).facts4
    go_wp2
    rw [HE.out.1, HE.out.2]
    exact dskE_leave rfl (HV.out.below hb1) rfl (kZeroD _ (fun _ => False)) (fun h => h) (below_then HBW hb1) (by omega) rfl rfl
  · have HZ := Lib.hid hz
    have HRF := Lib.hid (valid_facts (runs_facts hr).1)
    subst hst'
    by_cases hin : 0 ≤ p ∧ p < (secs.length : Int)
    · have HH : (Dsk.mk secs pend left false).has p = true := by rw [HHS, decide_eq_true hin.1, decide_eq_true hin.2]; rfl
      have HE0 := Lib.hid (writeE_at (b := b) (p := p) (d := ⟨secs, pend, left, false⟩) (by rw [hr, HH]; rfl))
      obtain ⟨i1, i2⟩ := hin
      clear hr hz HHS HH
      by_cases h1 : 128 < b.length
      · have HE : Hid (writeE ⟨secs, pend, left, false⟩ p b = 1 ∧ writeD ⟨secs, pend, left, false⟩ p b = zeroD) := by
          have h2 : writeE ⟨secs, pend, left, false⟩ p b = 1 := by rw [HE0.out, if_pos h1]
          exact ⟨h2, by unfold writeD; rw [h2]; rfl⟩
        go_enter Try.func20, Try.ntmps20
        go_wp2_with fail
        refine (rcheckD_as HZ.out (Kd.old H.out HBW)).mono ?_
        rintro e w1 ⟨rfl, hb1⟩
        obtain ⟨⟨e1, e2, e3, e4⟩, e5, e6, e7, e8⟩ := (HB.out.below hb1).facts4
        obtain ⟨⟨g1, g2, g3, g4⟩, g5, g6, g7, g8⟩ := (HV.out.below hb1).facts4
        go_wp2
        rw [HE.out.1, HE.out.2]
        exact dskE_leave rfl (HV.out.below hb1) rfl (kZeroD _ (fun _ => False)) (fun h => h) (below_then HBW hb1) (by omega) rfl rfl
      · by_cases h2 : pend.length = 4096
        · have HE : Hid (writeE ⟨secs, pend, left, false⟩ p b = 2 ∧ writeD ⟨secs, pend, left, false⟩ p b = zeroD) := by
            have h3 : writeE ⟨secs, pend, left, false⟩ p b = 2 := by rw [HE0.out, if_neg h1, if_pos h2]
            exact ⟨h3, by unfold writeD; rw [h3]; rfl⟩
          have h2' : (pend.length : Int) = 4096 := by omega
          clear h2
          go_enter Try.func20, Try.ntmps20
          go_wp2_with fail
          refine (rcheckD_as HZ.out (Kd.old H.out HBW)).mono ?_
          rintro e w1 ⟨rfl, hb1⟩
          obtain ⟨⟨e1, e2, e3, e4⟩, e5, e6, e7, e8⟩ := (HB.out.below hb1).facts4
          obtain ⟨⟨g1, g2, g3, g4⟩, g5, g6, g7, g8⟩ := (HV.out.below hb1).facts4
          go_wp2
          rw [HE.out.1, HE.out.2]
          exact dskE_leave rfl (HV.out.below hb1) rfl (kZeroD _ (fun _ => False)) (fun h => h) (below_then HBW hb1) (by omega) rfl rfl
        · have HE : Hid (writeE ⟨secs, pend, left, false⟩ p b = 0 ∧ writeD ⟨secs, pend, left, false⟩ p b = ⟨secs, pend ++ [⟨p, pad b⟩], left, false⟩) := by
            have h3 : writeE ⟨secs, pend, left, false⟩ p b = 0 := by rw [HE0.out, if_neg h1, if_neg h2]
            exact ⟨h3, by unfold writeD; rw [h3]; rfl⟩
          have h2' : ¬ (pend.length : Int) = 4096 := by omega
          have h1' : Hid (b.length ≤ 128) := by show b.length ≤ 128; omega
          have hpl : Hid ((([] : List Wr).length + pend.length) * 32 ≤ 140737488355328) := by show _ ≤ _; have h7 := HRF.out.2.2.1; simp only [List.length_nil] at h7 ⊢; omega
          have hpl' : Hid (([] ++ pend : List Wr).length * 32 + 32 ≤ 140737488355328) := by show _ ≤ _; have h7 := HRF.out.2.2.1; simp only [List.nil_append] at h7 ⊢; omega
          clear h2
          go_enter Try.func20, Try.ntmps20
          go_wp2_with fail
          refine (rcheckD_as HZ.out (Kd.old H.out HBW)).mono ?_
          rintro e w1 ⟨rfl, hb1⟩
          obtain ⟨⟨e1, e2, e3, e4⟩, e5, e6, e7, e8⟩ := (HB.out.below hb1).facts4
          obtain ⟨⟨g1, g2, g3, g4⟩, g5, g6, g7, g8⟩ := (HV.out.below hb1).facts4
          have HB1 := Lib.hid (HB.out.below hb1)
          have HV1 := Lib.hid (HV.out.below hb1)
          have HBW1 := Lib.hid (below_then HBW hb1)
          have hs1 : w.heap.size + 2 ≤ w1.heap.size := by have a1 := hb1.size; rw [World.size_alloc, World.size_alloc] at a1; omega
          have HO1 : Hid (Own kU8 5 (w1.alloc (.cells #[] 5)) (w.heap.size + 2) (fun _ => False) (.slice (some ⟨w1.heap.size, 0, none⟩) 0 0) []) := own_empty w1 (fun _ => False) (fun h => h) hs1
          have HBS1 := Lib.hid (HBS.out.below (below_then HBW1.out (below_box (Below.refl _ _) (.cells #[] 5))))
          have hz1 : Hid (w.heap.size + 2 ≤ (w1.alloc (.cells #[] 5)).heap.size) := by show _ ≤ _; rw [World.size_alloc]; omega
          have hby1 : Hid ((([] : List UInt8).length + b.length) * 1 ≤ 140737488355328) := by show _ ≤ _; simp only [List.length_nil]; omega
          go_wp2_with (first | (at_builtin; refine wpList_apps rfl (.tmp 37) (.tmp 38) _ rfl E_u8 HO1.out rfl Ab cb rfl HBS1.out.row (fun _ _ _ h => h) (fun _ h => h.elim) hby1.out (by decide) hz1.out ?_; intro v2 w2 hown2 hg2 hat2))
          have HBW2 : Hid (Below w.heap.size w w2) := (below_box HBW1.out _).grown hg2 (by have := hz1.out; omega) (fun k hk => by have := (HO1.out.lt k hk).1; omega)
          have HB2 := Lib.hid ((HB1.out.below (below_box (Below.refl _ _) (.cells #[] 5))).grown hg2 (by intro e; have := (HO1.out.lt _ e).1; omega))
          have HV2 := Lib.hid ((HV1.out.below (below_box (Below.refl _ _) (.cells #[] 5))).grown hg2 (by intro e; have := (HO1.out.lt _ e).1; omega))
          have HO2 : Hid (Own kU8 5 w2 (w.heap.size + 2) (fun _ => False) v2 (b ++ List.replicate 0 0)) := by
            show Own _ _ _ _ _ _ _
            have h := hown2
            simpa using h
          have hs2 : w.heap.size + 2 ≤ w2.heap.size := Nat.le_trans hz1.out hg2.size
          clear hown2 hg2 hat2 HO1 HBS1 HB1 HV1 HBW1 e1 e2 e3 e4 e5 e6 e7 e8 g1 g2 g3 g4 g5 g6 g7 g8 hb1 hs1 HB HV HBW f1 f2 f3 f4
          go_loopw [8] (fun v' wr => ∃ n : Nat, b.length + n ≤ 128 ∧ w.heap.size + 2 ≤ wr.heap.size ∧ Hid (Own kU8 5 wr (w.heap.size + 2) (fun _ => False) v' (b ++ List.replicate n 0)) ∧ Hid (Blk wr w.heap.size 25 [.slice A secs.length c, .slice A' pend.length c', .int .i64 left, .bool false]) ∧ Hid (Blk wr (w.heap.size + 1) 25 [.slice none 0 0, .slice none 0 0, .int .i64 0, .bool false]) ∧ Hid (Below w.heap.size w wr)) (fun v' _ => 128 - lenOf v')
          case atStart => exact ⟨0, h1'.out, hs2, HO2, HB2, HV2, HBW2⟩
          case round =>
            obtain ⟨n, hn, hs3, hO, hB, hV, hW⟩ := hrel
            clear HO2 HB2 HV2 HBW2 hs2
            obtain ⟨A3, c3, rfl, hle3, hmx3⟩ := hO.out.form
            have hlen : (b ++ List.replicate n (0 : UInt8)).length = b.length + n := by simp
            by_cases hmore : b.length + n < 128
            · have hby : Hid (((b ++ List.replicate n (0 : UInt8)).length + 1) * 1 ≤ 140737488355328) := by show _ ≤ _; rw [hlen]; omega
              have HN : Hid (Blk (wr.alloc (.cells #[.int .u8 0] 5)) wr.heap.size 5 [.int .u8 0]) := Blk.new wr 5 [.int .u8 0]
              have hsz : Hid (w.heap.size + 2 ≤ (wr.alloc (.cells #[.int .u8 0] 5)).heap.size) := by show _ ≤ _; rw [World.size_alloc]; omega
              have hbx := Lib.hid (below_box (Below.refl wr.heap.size wr) (.cells #[.int .u8 0] 5))
              have hmore' : ((b ++ List.replicate n (0 : UInt8)).length : Int) < 128 := by rw [hlen]; omega
              go_wp2_with (at_builtin; refine wpList_app1 rfl (.tmp 43) (.tmp 44) _ rfl E_u8 (0 : UInt8) [.int .u8 0] (hO.out.below hbx.out) rfl ⟨wr.heap.size, 0, none⟩ 1 rfl (show [Value.int .u8 0] = _ from rfl) HN.out.cells0 (fun _ h => h.elim) hby.out (by decide) hsz.out ?_; intro v4 w4 hown4 hg4 hat4; obtain ⟨A4, c4, rfl, _, _⟩ := hown4.form)
              have hlt := hO.out.lt
              go_roundw
              case rel =>
                refine ⟨n + 1, by omega, Nat.le_trans hsz.out hg4.size, ?_, (hB.out.below hbx.out).grown hg4 (fun e => by have := (hlt _ e).1; omega), (hV.out.below hbx.out).grown hg4 (fun e => by have := (hlt _ e).1; omega), (below_box hW.out _).grown hg4 (by have := hsz.out; omega) (fun k hk => by have := (hlt _ hk).1; omega)⟩
                show Own _ _ _ _ _ _ _
                rw [List.replicate_succ', ← List.append_assoc]
                have hll : (b ++ List.replicate n (0 : UInt8) ++ [0]).length = b.length + (n + 1) := by simp [Nat.add_assoc]
                have hx := hown4
                rw [hll] at hx
                exact hx
              case measure => simp [lenOf]; omega
            · have hnl : ¬ ((b ++ List.replicate n (0 : UInt8)).length : Int) < 128 := by rw [hlen]; omega
              have hpd := pad_of (by rw [hlen]; omega : (b ++ List.replicate n (0 : UInt8)).length = 128)
              rw [hpd] at hO hlen hle3 hnl ⊢
              have hl128 : (pad b).length = 128 := length_pad h1'.out
              rw [hl128] at hO hnl ⊢
              clear hlen hle3 hmore hpd hpl'
              have HF5 : Hid (∀ k, (fun k => Gap w k ∧ k < wr.heap.size) k → k < (wr.alloc (.cells #[] 54)).heap.size) := fun k hk => by rw [World.size_alloc]; have := hk.2; omega
              have HO4 : Hid (Own kWr 54 (wr.alloc (.cells #[] 54)) wr.heap.size (fun k => Gap w k ∧ k < wr.heap.size) (.slice (some ⟨wr.heap.size, 0, none⟩) 0 0) []) := own_empty wr _ (fun h => Nat.lt_irrefl _ h.2) (Nat.le_refl _)
              have hba := Lib.hid (below_box (Below.refl wr.heap.size wr) (.cells #[] 54))
              have HP4 := Lib.hid (HP.out.below (below_then hW.out hba.out))
              have HFF : Hid (∀ x cs, x ∈ pend → kWr.K (wr.alloc (.cells #[] 54)) (Old w) x cs → kWr.K (wr.alloc (.cells #[] 54)) (fun k => Gap w k ∧ k < wr.heap.size) x cs) := fun x cs _ h => kWr.mono (fun k hk _ => ⟨.inl hk, by have hk' : k < w.heap.size := hk; omega⟩) h
              have hsa : Hid (wr.heap.size ≤ (wr.alloc (.cells #[] 54)).heap.size) := by show _ ≤ _; rw [World.size_alloc]; omega
              have HB4 := Lib.hid (hB.out.below hba.out)
              have HV4 := Lib.hid (hV.out.below hba.out)
              have HW4 := Lib.hid (below_then hW.out hba.out)
              obtain ⟨⟨f1, f2, f3, f4⟩, _⟩ := HB4.out.facts4
              have HSL : Hid (SL kU8 wr (fun k => Gap w k ∧ k < wr.heap.size) A3 c3 (pad b)) := by
                obtain ⟨A7, c7, e7, h7⟩ := hO.out.sl (F' := fun k => Gap w k ∧ k < wr.heap.size) (fun _ h => h.elim) (fun k hk => ⟨.inr (hO.out.lt k hk).1, (hO.out.lt k hk).2⟩)
                injection e7 with e7 _ e8
                subst e7 e8
                exact h7
              have hK7 : Hid (∀ wb, Below wr.heap.size wr wb → kWr.K wb (fun k => Gap w k ∧ k < wr.heap.size) ⟨p, pad b⟩ [.int .i64 p, .slice A3 128 c3]) := fun wb hwb => by
                have := kWr_mk (x := ⟨p, pad b⟩) HI.out (HSL.out.below hwb)
                rwa [show (pad b).length = 128 from hl128] at this
              have hpl2 : Hid ((([] ++ pend : List Wr).length + 1) * 32 ≤ 140737488355328) := by show _ ≤ _; have h7 := HRF.out.2.2.1; simp only [List.nil_append] at h7 ⊢; omega
              clear hB hV
              go_wp2_with (first | (at_builtin; refine wpList_apps rfl (.tmp 46) (.tmp 48) _ rfl E_wr HO4.out rfl A' c' rfl HP4.out.row HFF.out HF5.out hpl.out (by decide) hsa.out ?_; intro v5 w5 hown5 hg5 hat5; have hb5 := Lib.hid ((below_then (Below.refl _ _) hba.out).grown hg5 hsa.out (fun k hk => (HO4.out.lt k hk).1)); have HB5 := Lib.hid (HB4.out.grown hg5 (fun e => by have := (HO4.out.lt _ e).1; omega)); have HV5 := Lib.hid (HV4.out.grown hg5 (fun e => by have := (HO4.out.lt _ e).1; omega))) | (at_builtin; refine wpList_app1 rfl (.tmp 49) (.tmp 53) _ rfl E_wr (⟨p, pad b⟩ : Wr) [.int .i64 p, .slice A3 128 c3] (hown5.below (below_box (Below.refl _ _) _)) rfl ⟨w5.heap.size, 0, none⟩ 1 rfl (hK7.out _ (below_box hb5.out _)) (Blk.new w5 54 [.int .i64 p, .slice A3 128 c3]).cells0 ?zf hpl2.out (by decide) ?zg ?_; (case zf => exact fun k hk => by have := hb5.out.size; have := hk.2; rw [World.size_alloc]; omega); (case zg => have := hb5.out.size; rw [World.size_alloc]; omega); intro v6 w6 hown6 hg6 hat6; obtain ⟨A6, c6, rfl, hs6⟩ := hown6.sl (F' := Gap w) (fun k hk _ => hk.1) (fun k hk => .inr (by have := (hown6.lt k hk).1; omega)); have HB6 := Lib.hid ((HB5.out.below (below_box (Below.refl _ _) _)).grown hg6 (fun e => by have := (hown5.lt _ e).1; omega)); have HV6 := Lib.hid ((HV5.out.below (below_box (Below.refl _ _) _)).grown hg6 (fun e => by have := (hown5.lt _ e).1; omega)); obtain ⟨⟨y1, y2, y3, y4⟩, y5, y6, y7, y8⟩ := HB6.out.facts4; obtain ⟨⟨g1, g2, g3, g4⟩, g5, g6, g7, g8⟩ := HV6.out.facts4))
              rw [HE.out.1, HE.out.2]
              have hW6 : Below w.heap.size w w6 := ((below_box (below_then hW.out hb5.out) _)).grown hg6 (by have := hb5.out.size; rw [World.size_alloc]; omega) (fun k hk => by have := (hown5.lt _ hk).1; omega)
              have hs6' : SL kWr w6 (Gap w) A6 c6 (pend ++ [⟨p, pad b⟩]) := hs6
              have hm : ∀ k, Gap w k → k < w6.heap.size → (w6.setCell ⟨w.heap.size, 1, none⟩ (.slice A6 (pend.length + 1) c6)).heap[k]? = w6.heap[k]? := fun k hk _ => Below.heap_setCell _ _ _ _ (fun e => by have e' : k = w.heap.size := e; rcases hk with hk | hk <;> omega)
              have hsz : w6.heap.size ≤ (w6.setCell ⟨w.heap.size, 1, none⟩ (.slice A6 (pend.length + 1) c6)).heap.size := by simp [World.setCell]
              have HK := kDsk_mk (d := ⟨secs, pend ++ [⟨p, pad b⟩], left, false⟩) (((HS.out.below hW6).mono (F' := Gap w) (fun k hk _ => .inl hk)).move hm hsz) (hs6'.move hm hsz) HL.out
              have hl7 : ((⟨secs, pend ++ [⟨p, pad b⟩], left, false⟩ : Dsk).pend).length = pend.length + 1 := by simp
              rw [hl7] at HK
              exact dskE_leave rfl (HV6.out.other (v := w.heap.size) (i := 1) (by omega)) rfl HK (fun h => by rcases h with h | h <;> omega) (hW6.setCell (Nat.le_refl _) _) (by omega) rfl rfl
    · have HE := Lib.hid (writeE_no (b := b) (p := p) (d := ⟨secs, pend, left, false⟩) (by
        rw [hr, HHS, Bool.true_and]
        rcases Int.lt_or_le p 0 with h | h
        · rw [decide_eq_false (by omega : ¬ 0 ≤ p)]; rfl
        · rw [decide_eq_false (by intro h'; exact hin ⟨h, h'⟩ : ¬ p < (secs.length : Int)), Bool.and_false]))
      have hcase : p < 0 ∨ (0 ≤ p ∧ (secs.length : Int) ≤ p) := by
        rcases Int.lt_or_le p 0 with h | h
        · exact .inl h
        · exact .inr ⟨h, by rcases Int.lt_or_le p (secs.length : Int) with h' | h'; · exact absurd ⟨h, h'⟩ hin
                            · exact h'⟩
      clear hr hz HHS hin
      rcases hcase with hc | ⟨hc, hc'⟩
      all_goals
        go_enter Try.func20, Try.ntmps20
        go_wp2_with fail
        refine (rcheckD_as HZ.out (Kd.old H.out HBW)).mono ?_
        rintro e w1 ⟨rfl, hb1⟩
        obtain ⟨⟨e1, e2, e3, e4⟩, e5, e6, e7, e8⟩ := (HB.out.below hb1).facts4
        obtain ⟨⟨g1, g2, g3, g4⟩, g5, g6, g7, g8⟩ := (HV.out.below hb1).facts4
        go_wp2
        rw [HE.out.1, HE.out.2]
        exact dskE_leave rfl (HV.out.below hb1) rfl (kZeroD _ (fun _ => False)) (fun h => h) (below_then HBW hb1) (by omega) rfl rfl
end Go.Proofs.Ytmcdimcjmafaoaa.B
