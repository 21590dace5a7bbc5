import Derived.Test.YtmcdimcjmafaoaaDiskP
namespace Go.Proofs.Ytmcdimcjmafaoaa.B
set_option linter.unusedVariables false
set_option linter.unusedSimpArgs false
open Go.RowKit

theorem own_rep {α : Type} {d : Kd α} {e : TypeId} {w : World} {B g m : Nat} {F : Foot} {x : α} {v : Value} (hsz : d.sz = 1) (hg : B ≤ g) (hF : ¬ F g) (hh : w.heap[g]? = some (.cells (List.replicate m v).toArray e (0, 0))) (hm : m ≤ maxLen) (hK : d.K w F x [v]) :
    Own d e w B F (.slice (some ⟨g, 0, none⟩) m m) (List.replicate m x) := by
  have h := Own.of_block1 (d := d) (e := e) (w := w) (B := B) (F := F) (xs := List.replicate m x) (cur := (List.replicate m v).toArray) (cap := m) hsz hg hF hh (by simp) hm (by simp) ?_
  · rwa [List.length_replicate] at h
  · have e1 : (List.replicate m v).toArray.toList.take (List.replicate m x).length = List.replicate m v := by rw [List.length_replicate]; simp
    rw [e1]
    refine ⟨by simp [hsz], fun j y hj => ?_⟩
    have hjl : j < m := by have := (List.getElem?_eq_some_iff.1 hj).1; simpa using this
    have hy : y = x := by
      rw [List.getElem?_replicate, if_pos hjl] at hj
      injection hj with hj
      exact hj.symm
    subst hy
    rw [hsz, Nat.mul_one, List.drop_replicate, List.take_replicate, Nat.min_eq_left (by omega)]
    exact hK
theorem dskF_leave0 {w w1 : World} {fn : Func} {p q : Tmp} {b : Nat} {z : Int} {d : Dsk} {t : TypeId} {G : Foot} {u0 u1 u2 u3 : Value} (hfn : fn.results = #[.cell p 25, .tmp q]) (HV : Blk w1 b t [u0, u1, u2, u3]) (hK : kDsk.K w1 (Fut G w) d [u0, u1, u2, u3]) (HB : Below w.heap.size w w1)
    {tmps : Array Value} (hp : tmps.getD p undef = .pointer (some ⟨b, 0, none⟩)) (hq : tmps.getD q undef = .int .i64 z) :
    bodyPost Try.prog fn (DskF G d z w) Exit.ret { tmps := tmps, defers := [] } w1 := by
  refine bodyPost_ret (results_cell_tmp hfn _ _ b _ _ _ _ hp HV Try.underlying25 rfl info_dsk) rfl ?_
  exact ⟨[u0, u1, u2, u3], by rw [hq], hK, HB⟩
set_option maxRecDepth 100000 in
set_option maxHeartbeats 1000000 in
theorem newF_calls {n : Int} {w : World} (hn : I64 n) : Calls Try.prog 12 #[.int .i64 n] w (DskF (fun _ => False) (newD n) (newE n) w) := by
  obtain ⟨n1, n2⟩ := hn
  have HV := Lib.hid (Blk.new w 25 [.slice none 0 0, .slice none 0 0, .int .i64 0, .bool false])
  have HW : Hid (Below w.heap.size w (w.alloc (.cells #[.slice none 0 0, .slice none 0 0, .int .i64 0, .bool false] 25))) := below_box (Below.refl _ _) _
  obtain ⟨⟨g1, g2, g3, g4⟩, g5, g6, g7, g8⟩ := HV.out.facts4
  by_cases hbad : n < 1 ∨ 4096 < n
  · have HE := Lib.hid (new_no hbad)
    rcases hbad with hbad | hbad
    all_goals
      go_enter Try.func12, Try.ntmps12
      go_wp2
      rw [HE.out.1, HE.out.2]
      first
        | exact dskF_leave0 rfl HV.out (kZeroD _ _) HW.out rfl rfl
        | exact dskF_leave (fun _ h => h.elim) rfl HV.out rfl (kZeroD _ (fun _ => False)) (fun h => h) HW.out (Nat.le_refl _) rfl rfl
  · have HE := Lib.hid (new_ok hbad)
    have hb1 : ¬ n < 1 := by omega
    have hb2 : ¬ 4096 < n := by omega
    obtain ⟨m, rfl⟩ : ∃ m : Nat, n = (m : Int) := ⟨n.toNat, by omega⟩
    clear hbad
    have hmk := fun w => make128z w
    have hz0 := Blk.new (w.alloc (.cells #[.slice none 0 0, .slice none 0 0, .int .i64 0, .bool false] 25)) 5 zcells
    rw [World.size_alloc] at hz0
    have hbc := below_box (Below.refl (((w.alloc (.cells #[.slice none 0 0, .slice none 0 0, .int .i64 0, .bool false] 25)).alloc (.cells zcells.toArray 5))).heap.size (((w.alloc (.cells #[.slice none 0 0, .slice none 0 0, .int .i64 0, .bool false] 25)).alloc (.cells zcells.toArray 5)))) (.cells #[.slice (some ⟨w.heap.size + 1, 0, none⟩) 128 128] 35)
    have HZ : Hid (Blk (((((w.alloc (.cells #[.slice none 0 0, .slice none 0 0, .int .i64 0, .bool false] 25)).alloc (.cells zcells.toArray 5))).alloc (.cells #[.slice (some ⟨w.heap.size + 1, 0, none⟩) 128 128] 35))) (w.heap.size + 1) 5 (bcells zsec)) := Blk.below hz0 hbc
    have hc0 := Blk.new (((w.alloc (.cells #[.slice none 0 0, .slice none 0 0, .int .i64 0, .bool false] 25)).alloc (.cells zcells.toArray 5))) 35 [.slice (some ⟨w.heap.size + 1, 0, none⟩) 128 128]
    rw [World.size_alloc, World.size_alloc] at hc0
    have HC : Hid ((((((w.alloc (.cells #[.slice none 0 0, .slice none 0 0, .int .i64 0, .bool false] 25)).alloc (.cells zcells.toArray 5))).alloc (.cells #[.slice (some ⟨w.heap.size + 1, 0, none⟩) 128 128] 35))).cell? ⟨w.heap.size + 1 + 1, 0, none⟩ = some (.slice (some ⟨w.heap.size + 1, 0, none⟩) 128 128)) := hc0.facts1.1
    have HVC : Hid (Blk (((((w.alloc (.cells #[.slice none 0 0, .slice none 0 0, .int .i64 0, .bool false] 25)).alloc (.cells zcells.toArray 5))).alloc (.cells #[.slice (some ⟨w.heap.size + 1, 0, none⟩) 128 128] 35))) w.heap.size 25 [.slice none 0 0, .slice none 0 0, .int .i64 0, .bool false]) := Blk.below (Blk.below HV.out (below_box (Below.refl _ _) _)) hbc
    have HWC : Hid (Below w.heap.size w (((((w.alloc (.cells #[.slice none 0 0, .slice none 0 0, .int .i64 0, .bool false] 25)).alloc (.cells zcells.toArray 5))).alloc (.cells #[.slice (some ⟨w.heap.size + 1, 0, none⟩) 128 128] 35)))) := below_box (below_box HW.out _) _
    have HSZ : Hid ((((((w.alloc (.cells #[.slice none 0 0, .slice none 0 0, .int .i64 0, .bool false] 25)).alloc (.cells zcells.toArray 5))).alloc (.cells #[.slice (some ⟨w.heap.size + 1, 0, none⟩) 128 128] 35))).heap.size = w.heap.size + 3) := by show _ = _; rw [World.size_alloc, World.size_alloc, World.size_alloc]
    clear hz0 hbc hc0
    go_enter Try.func12, Try.ntmps12
    go_wp2_with fail
    refine (repeat_calls (m := m) (by omega) (by omega) HC.out).mono ?_
    rintro e w5 ⟨g, rfl, hg, hh, hb5⟩
    have HV5 := Lib.hid (HVC.out.below hb5)
    have HW5 := Lib.hid (below_then HWC.out hb5)
    have HZ5 := Lib.hid (HZ.out.below hb5)
    obtain ⟨⟨g1, g2, g3, g4⟩, g5, g6, g7, g8⟩ := HV5.out.facts4
    rw [HSZ.out] at hg
    have HH := Lib.hid hh.out
    clear hh hb5
    go_wp2
    have hE2 := HE.out.2
    rw [show ((m : Int)).toNat = m by omega] at hE2
    rw [HE.out.1, hE2]
    have hK : kBytes.K w5 (fun k => k = w.heap.size + 1) zsec [.slice (some ⟨w.heap.size + 1, 0, none⟩) 128 128] := by
      have ho := own_bytes_block (B := 0) (F := fun _ => False) zsec (Nat.zero_le _) (fun h => h) HZ5.out (by decide)
      obtain ⟨A7, c7, e7, h7⟩ := ho.sl (F' := fun k => k = w.heap.size + 1) (fun _ h => h.elim) (fun k hk => (own_is hk).symm)
      exact ⟨A7, c7, by rw [← e7]; rfl, h7⟩
    have ho := own_rep (d := kBytes) (e := 35) (B := w.heap.size + 2) (x := zsec) (m := m) rfl (by omega) (fun h => by have h' : g = w.heap.size + 1 := h; omega) HH.out (by unfold maxLen; omega) hK
    have hsl : SL kBytes w5 (fun k => w.heap.size + 1 ≤ k) (some ⟨g, 0, none⟩) m (List.replicate m zsec) := by
      obtain ⟨A9, c9, e9, h9⟩ := ho.sl (F' := fun k => w.heap.size + 1 ≤ k) (fun k hk _ => by have hk' : k = w.heap.size + 1 := hk; omega) (fun k hk => by have := (ho.lt k hk).1; omega)
      injection e9 with e9 _ e10
      subst e9 e10
      exact h9
    have hKd := kDsk_mk (d := ⟨List.replicate m zsec, [], -1, false⟩) hsl (SL.nil (A := none) (c := 0) (Nat.zero_le _)) (show I64 (-1) by unfold I64; decide)
    have hl : ((⟨List.replicate m zsec, [], -1, false⟩ : Dsk).secs).length = m := by simp
    rw [hl] at hKd
    exact dskF_leave (fun k hk => .inr (by have hk' : w.heap.size + 1 ≤ k := hk; omega)) rfl HV5.out rfl hKd (fun h => by omega) HW5.out (Nat.le_refl _) rfl rfl
theorem new_calls {n : Int} {w : World} (hn : I64 n) : Calls Try.prog 12 #[.int .i64 n] w (DskE (newD n) (newE n) w) := (newF_calls hn).mono fun _ _ h => h.old
end Go.Proofs.Ytmcdimcjmafaoaa.B
