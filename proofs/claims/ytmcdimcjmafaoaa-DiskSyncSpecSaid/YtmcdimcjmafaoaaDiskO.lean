import Derived.Test.YtmcdimcjmafaoaaDiskN
import Derived.Deep.RegionLaw
namespace Go.Proofs.Ytmcdimcjmafaoaa.B
set_option linter.unusedVariables false
set_option linter.unusedSimpArgs false
open Go.RowKit

def zsec : List UInt8 := List.replicate 128 0
theorem zcells_b : zcells = bcells zsec := rfl
theorem new_no {n : Int} (h : n < 1 ∨ 4096 < n) : newE n = 1 ∧ newD n = zeroD := by
  have h1 : newE n = 1 := by unfold newE; rw [if_pos h]
  exact ⟨h1, by unfold newD; rw [h1]; rfl⟩
theorem new_ok {n : Int} (h : ¬ (n < 1 ∨ 4096 < n)) : newE n = 0 ∧ newD n = ⟨List.replicate n.toNat zsec, [], -1, false⟩ := by
  have h1 : newE n = 0 := by unfold newE; rw [if_neg h]
  exact ⟨h1, by unfold newD; rw [h1]; rfl⟩
theorem dskE_leave0 {w w1 : World} {fn : Func} {p q : Tmp} {b : Nat} {z : Int} {d : Dsk} {t : TypeId} {F : Foot} {u0 u1 u2 u3 : Value} (hfn : fn.results = #[.cell p 25, .tmp q]) (HV : Blk w1 b t [u0, u1, u2, u3]) (hK : kDsk.K w1 F d [u0, u1, u2, u3]) (HB : Below w.heap.size w w1)
    {tmps : Array Value} (hp : tmps.getD p undef = .pointer (some ⟨b, 0, none⟩)) (hq : tmps.getD q undef = .int .i64 z) :
    bodyPost Try.prog fn (DskE d z w) Exit.ret { tmps := tmps, defers := [] } w1 := by
  refine bodyPost_ret (results_cell_tmp hfn _ _ b _ _ _ _ hp HV Try.underlying25 rfl info_dsk) rfl ?_
  exact ⟨[u0, u1, u2, u3], by rw [hq], Kd.any hK, HB⟩
set_option maxRecDepth 100000 in
set_option maxHeartbeats 1000000 in
theorem rnew_calls {n : Int} {w : World} (hn : I64 n) : Calls Try.prog 13 #[.int .i64 n] w (DskE (newD n) (newE n) w) := by
  obtain ⟨n1, n2⟩ := hn
  have HV := Lib.hid (Blk.new w 25 [.slice none 0 0, .slice none 0 0, .int .i64 0, .bool false])
  have HW : Hid (Below w.heap.size w (w.alloc (.cells #[.slice none 0 0, .slice none 0 0, .int .i64 0, .bool false] 25))) := below_box (Below.refl _ _) _
  obtain ⟨⟨g1, g2, g3, g4⟩, g5, g6, g7, g8⟩ := HV.out.facts4
  by_cases hbad : n < 1 ∨ 4096 < n
  · have HE := Lib.hid (new_no hbad)
    rcases hbad with hbad | hbad
    all_goals
      go_enter Try.func13, Try.ntmps13
      go_wp2
      rw [HE.out.1, HE.out.2]
      exact dskE_leave0 rfl HV.out (kZeroD _ (fun _ => False)) HW.out rfl rfl
  · have HE := Lib.hid (new_ok hbad)
    have hb1 : ¬ n < 1 := by omega
    have hb2 : ¬ 4096 < n := by omega
    obtain ⟨m, rfl⟩ : ∃ m : Nat, n = (m : Int) := ⟨n.toNat, by omega⟩
    clear hbad
    have HV1 := Lib.hid (HV.out.below (below_box (Below.refl _ _) (.cells #[.slice none 0 0, .slice none 0 0, .int .i64 (-1), .bool false] 25)))
    have hN := Blk.new (w.alloc (.cells #[.slice none 0 0, .slice none 0 0, .int .i64 0, .bool false] 25)) 25 [.slice none 0 0, .slice none 0 0, .int .i64 (-1), .bool false]
    rw [World.size_alloc] at hN
    have HN := Lib.hid hN
    have HW1 : Hid (Below w.heap.size w ((w.alloc (.cells #[.slice none 0 0, .slice none 0 0, .int .i64 0, .bool false] 25)).alloc (.cells #[.slice none 0 0, .slice none 0 0, .int .i64 (-1), .bool false] 25))) := below_box HW.out _
    have HSZ : Hid (w.heap.size + 2 ≤ ((w.alloc (.cells #[.slice none 0 0, .slice none 0 0, .int .i64 0, .bool false] 25)).alloc (.cells #[.slice none 0 0, .slice none 0 0, .int .i64 (-1), .bool false] 25)).heap.size) := by show _ ≤ _; rw [World.size_alloc, World.size_alloc]; omega
    have hmk := fun w => make128z w
    clear hN
    go_enter Try.func13, Try.ntmps13
    go_wp2_with fail
    go_loopw [5] (fun i' wr => ∃ (i : Nat) (v : Value) (F : Foot), i' = .int .i64 i ∧ i ≤ m ∧ w.heap.size + 2 ≤ wr.heap.size ∧ Hid (Blk wr w.heap.size 25 [.slice none 0 0, .slice none 0 0, .int .i64 0, .bool false]) ∧ Hid (Blk wr (w.heap.size + 1) 25 [v, .slice none 0 0, .int .i64 (-1), .bool false]) ∧ Hid (Own kBytes 35 wr (w.heap.size + 2) F v (List.replicate i zsec)) ∧ Hid (∀ k, F k → w.heap.size + 2 ≤ k ∧ k < wr.heap.size) ∧ Hid (Below w.heap.size w wr)) (fun i' _ => m - (intOf i').toNat)
    case atStart => exact ⟨0, .slice none 0 0, fun _ => False, rfl, Nat.zero_le _, HSZ.out, HV1, HN, Own.nil, fun _ h => h.elim, HW1⟩
    case round =>
      obtain ⟨i, v, F, rfl, hi, hsz, hV, hN, hO, hF, hW⟩ := hrel
      clear HV1 HN HW1 HSZ HV HW g1 g2 g3 g4 g5 g6 g7 g8
      obtain ⟨A, c, rfl, hle, hmx⟩ := hO.out.form
      rw [List.length_replicate] at hN hO
      obtain ⟨⟨f1, f2, f3, f4⟩, f5, f6, f7, f8⟩ := hN.out.facts4
      obtain ⟨⟨g1, g2, g3, g4⟩, g5, g6, g7, g8⟩ := hV.out.facts4
      by_cases hin : i < m
      · have hb2 : Below wr.heap.size wr (((wr.drew.alloc (.cells zcells.toArray 5)).alloc (.cells #[.slice (some ⟨wr.heap.size, 0, none⟩) 128 128] 35))) := below_box (below_box (below_drew (Below.refl _ _)) _) _
        have HB2 := Lib.hid hb2
        have HO2 : Hid (Own kBytes 35 (((wr.drew.alloc (.cells zcells.toArray 5)).alloc (.cells #[.slice (some ⟨wr.heap.size, 0, none⟩) 128 128] 35))) (w.heap.size + 2) (fun k => F k ∨ k = wr.heap.size) (.slice A i c) (List.replicate i zsec)) :=
          (hO.out.below hb2).mono (fun k hk _ => .inl hk) (fun k hk h => by
            rcases h with h | h
            · exact hO.out.not k hk h
            · have := (hO.out.lt k hk).2; omega)
        have hz : Blk (((wr.drew.alloc (.cells zcells.toArray 5)).alloc (.cells #[.slice (some ⟨wr.heap.size, 0, none⟩) 128 128] 35))) wr.heap.size 5 (bcells zsec) := by
          have h1 := Blk.new wr.drew 5 zcells
          exact Blk.below h1 (below_box (Below.refl _ _) _)
        have HK2 : Hid (kBytes.K (((wr.drew.alloc (.cells zcells.toArray 5)).alloc (.cells #[.slice (some ⟨wr.heap.size, 0, none⟩) 128 128] 35))) (fun k => F k ∨ k = wr.heap.size) zsec [.slice (some ⟨wr.heap.size, 0, none⟩) 128 128]) := by
          have ho := own_bytes_block (B := wr.heap.size) (F := fun _ => False) zsec (Nat.le_refl _) (fun h => h) hz (by decide)
          obtain ⟨A7, c7, e7, h7⟩ := ho.sl (F' := fun k => F k ∨ k = wr.heap.size) (fun _ h => h.elim) (fun k hk => .inr (own_is hk).symm)
          exact ⟨A7, c7, by rw [← e7]; rfl, h7⟩
        have HC2 : Hid (∀ j u, [Value.slice (some ⟨wr.heap.size, 0, none⟩) 128 128][j]? = some u → (((wr.drew.alloc (.cells zcells.toArray 5)).alloc (.cells #[.slice (some ⟨wr.heap.size, 0, none⟩) 128 128] 35))).cell? ((⟨wr.heap.size + 1, 0, none⟩ : Addr).add j) = some u) := by
          have h1 := (Blk.new (wr.drew.alloc (.cells zcells.toArray 5)) 35 [.slice (some ⟨wr.heap.size, 0, none⟩) 128 128]).cells0
          rw [World.size_alloc] at h1
          exact h1
        have hszW : (((wr.drew.alloc (.cells zcells.toArray 5)).alloc (.cells #[.slice (some ⟨wr.heap.size, 0, none⟩) 128 128] 35))).heap.size = wr.heap.size + 2 := by rw [World.size_alloc, World.size_alloc]; rfl
        have HF2 : Hid (∀ k, (fun k => F k ∨ k = wr.heap.size) k → k < (((wr.drew.alloc (.cells zcells.toArray 5)).alloc (.cells #[.slice (some ⟨wr.heap.size, 0, none⟩) 128 128] 35))).heap.size) := fun k hk => by
          rw [hszW]
          rcases hk with hk | hk
          · have := (hF.out k hk).2; omega
          · omega
        have HBY : Hid (((List.replicate i zsec).length + 1) * 24 ≤ 140737488355328) := by show _ ≤ _; rw [List.length_replicate]; omega
        have HBB : Hid (w.heap.size + 2 ≤ (((wr.drew.alloc (.cells zcells.toArray 5)).alloc (.cells #[.slice (some ⟨wr.heap.size, 0, none⟩) 128 128] 35))).heap.size) := by show _ ≤ _; rw [hszW]; omega
        clear hb2 hz hszW
        obtain ⟨⟨k1, _, _, _⟩, _⟩ := (hN.out.below (below_box (Below.refl _ _) (.cells zcells.toArray 5))).facts4
        obtain ⟨⟨l1, _, _, _⟩, _⟩ := (hN.out.below (below_box (below_box (Below.refl _ _) (.cells zcells.toArray 5)) (.cells #[.slice (some ⟨wr.heap.size, 0, none⟩) 128 128] 35))).facts4
        have hlt := hO.out.lt
        have HLT := Lib.hid hlt
        clear hlt
        go_wp2_with fail
        go_region_law (first | (refine step_app1 rfl (.tmp 20) (.tmp 22) _ rfl E_bytes zsec [.slice (some ⟨wr.heap.size, 0, none⟩) 128 128] HO2.out rfl ⟨wr.heap.size + 1, 0, none⟩ 1 rfl HK2.out HC2.out HF2.out HBY.out (by decide) HBB.out ?_; intro v7 w7 hown7 hg7 hat7; obtain ⟨A7, c7, rfl, _, _⟩ := hown7.form; have HN7 := Lib.hid ((hN.out.below HB2.out).grown hg7 (fun e => by have := (HLT.out _ e).1; omega)); obtain ⟨⟨y1, y2, y3, y4⟩, y5, y6, y7, y8⟩ := HN7.out.facts4))
        all_goals
          have hln : (List.replicate i zsec ++ [zsec]).length = i + 1 := by simp
          have hrep : List.replicate i zsec ++ [zsec] = List.replicate (i + 1) zsec := by rw [List.replicate_succ']
          rw [hln] at hown7
          rw [hrep] at hown7
          have HO7 := Lib.hid hown7
          have HN8 := Lib.hid (HN7.out.set 0 (.slice A7 (i + 1) c7))
          have HV8 := Lib.hid (((hV.out.below HB2.out).grown hg7 (fun e => by have := (HLT.out _ e).1; omega)).other (v := w.heap.size + 1) (i := 0) (u := .slice A7 (i + 1) c7) (by omega))
          have HW8 := Lib.hid (((below_then hW.out HB2.out).grown hg7 (by have := HBB.out; omega) (fun k hk => by have := (HLT.out _ hk).1; omega)).setCell (p := ⟨w.heap.size + 1, 0, none⟩) (Nat.le_succ _) (.slice A7 (i + 1) c7))
          have hs7 := hg7.size
          have hF2 := HF2.out
          have hsW : (((wr.drew.alloc (.cells zcells.toArray 5)).alloc (.cells #[.slice (some ⟨wr.heap.size, 0, none⟩) 128 128] 35))).heap.size = wr.heap.size + 2 := by rw [World.size_alloc, World.size_alloc]; rfl
          have HS9 : Hid (w.heap.size + 2 ≤ (w7.setCell ⟨w.heap.size + 1, 0, none⟩ (.slice A7 (i + 1) c7)).heap.size ∧ wr.heap.size < (w7.setCell ⟨w.heap.size + 1, 0, none⟩ (.slice A7 (i + 1) c7)).heap.size) := by
            have h7 : (((wr.drew.alloc (.cells zcells.toArray 5)).alloc (.cells #[.slice (some ⟨wr.heap.size, 0, none⟩) 128 128] 35))).heap.size ≤ w7.heap.size := hs7
            rw [hsW] at h7
            have e : (w7.setCell ⟨w.heap.size + 1, 0, none⟩ (.slice A7 (i + 1) c7)).heap.size = w7.heap.size := by simp [World.setCell]
            exact ⟨by rw [e]; omega, by rw [e]; omega⟩
          have HO9 : Hid (Own kBytes 35 (w7.setCell ⟨w.heap.size + 1, 0, none⟩ (.slice A7 (i + 1) c7)) (w.heap.size + 2) (fun k => F k ∨ k = wr.heap.size) (.slice A7 (i + 1) c7) (List.replicate (i + 1) zsec)) := by
            refine HO7.out.step (by simp [World.setCell]) (fun k hk _ => Below.heap_setCell _ _ _ _ (fun e => ?_))
            have e' : k = w.heap.size + 1 := e
            rcases hk with (hk | hk) | hk
            · have := (hF.out k hk).1; omega
            · omega
            · have := (HO7.out.lt k hk).1; omega
          have HF9 : Hid (∀ k, (F k ∨ k = wr.heap.size) → w.heap.size + 2 ≤ k ∧ k < (w7.setCell ⟨w.heap.size + 1, 0, none⟩ (.slice A7 (i + 1) c7)).heap.size) := fun k hk => by
            rcases hk with hk | hk
            · have h8 := (hF.out k hk); exact ⟨h8.1, Nat.lt_trans h8.2 HS9.out.2⟩
            · subst hk; exact ⟨hsz, HS9.out.2⟩
          clear hsW hs7 hF2 hown7
          go_wp2
          go_roundw
          case rel => exact ⟨i + 1, .slice A7 (i + 1) c7, fun k => F k ∨ k = wr.heap.size, by go_num, by omega, HS9.out.1, HV8, HN8, HO9, HF9, HW8⟩
          case measure => simp [intOf]; omega
      · obtain rfl : i = m := by omega
        go_wp2
        have hE2 := HE.out.2
        rw [show ((i : Int)).toNat = i by omega] at hE2
        rw [HE.out.1, hE2]
        have hsl : SL kBytes wr (fun k => w.heap.size + 2 ≤ k) A c (List.replicate i zsec) := by
          obtain ⟨A9, c9, e9, h9⟩ := hO.out.sl (F' := fun k => w.heap.size + 2 ≤ k) (fun k hk _ => (hF.out k hk).1) (fun k hk => (hO.out.lt k hk).1)
          injection e9 with e9 _ e10
          subst e9 e10
          exact h9
        have hK := kDsk_mk (d := ⟨List.replicate i zsec, [], -1, false⟩) hsl (SL.nil (A := none) (c := 0) (Nat.zero_le _)) (show I64 (-1) by unfold I64; decide)
        have hl : ((⟨List.replicate i zsec, [], -1, false⟩ : Dsk).secs).length = i := by simp
        rw [hl] at hK
        exact dskE_leave rfl hV.out rfl hK (fun h => by omega) hW.out (Nat.le_refl _) rfl rfl
end Go.Proofs.Ytmcdimcjmafaoaa.B
