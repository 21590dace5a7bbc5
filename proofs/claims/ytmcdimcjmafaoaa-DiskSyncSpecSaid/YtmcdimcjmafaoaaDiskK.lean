import Derived.Test.YtmcdimcjmafaoaaDiskJ
namespace Go.Proofs.Ytmcdimcjmafaoaa.B
set_option linter.unusedVariables false
set_option linter.unusedSimpArgs false
open Go.RowKit

theorem own_is {g n c k : Nat} (h : (Value.slice (some ⟨g, 0, none⟩) n c).ownBlock = some k) : g = k := by simpa [Value.ownBlock] using h
theorem addr_add0 (g j : Nat) : (⟨g, 0, none⟩ : Addr).add j = ⟨g, j, none⟩ := by
  simp only [Addr.add, Nat.zero_add]
  split
  · rename_i h0; subst h0; rfl
  · rfl
theorem bcells_of {w : World} {F : Foot} {xs : List UInt8} {cells : List Value} (h : CellsOf kU8 w F xs cells) : cells = bcells xs := by
  have h1 : cells.length = xs.length := by have := h.1; simpa [kU8] using this
  refine List.ext_getElem (by rw [h1, length_bcells]) fun i hi hi' => ?_
  have h2 := h.2 i xs[i] (List.getElem?_eq_getElem (by omega))
  have h3 : (cells.drop (i * 1)).take 1 = [Value.int .u8 (xs[i].toNat : Int)] := h2
  rw [Nat.mul_one, List.drop_eq_getElem_cons hi, List.take_succ_cons, List.take_zero] at h3
  injection h3 with h3
  rw [h3]
  simp [bcells]
/-- A full row of bytes with room behind it. -/
theorem own_bytes_room {w : World} {B g cap : Nat} {e : TypeId} {F : Foot} {bs : List UInt8} {cur : List Value} (hg : B ≤ g) (hF : ¬ F g) (hh : w.heap[g]? = some (.cells cur.toArray e (0, 0))) (hm : cap ≤ maxLen) (hc : cur.length = cap) (hle : bs.length ≤ cap) (ht : cur.take bs.length = bcells bs) :
    Own kU8 e w B F (.slice (some ⟨g, 0, none⟩) bs.length cap) bs := by
  refine Own.of_block1 (cur := cur.toArray) rfl hg hF hh hle hm (by simpa using hc) ?_
  have : cur.toArray.toList.take bs.length = bcells bs := ht
  rw [this]
  refine ⟨by rw [length_bcells]; simp [kU8], fun j x hj => ?_⟩
  have hjl := (List.getElem?_eq_some_iff.1 hj).1
  show ((bcells bs).drop (j * 1)).take 1 = [Value.int .u8 (x.toNat : Int)]
  unfold bcells
  rw [Nat.mul_one, ← List.map_drop, List.drop_eq_getElem_cons hjl]
  simp only [List.map_cons, List.take_succ_cons, List.take_zero, List.cons.injEq, and_true]
  rw [(List.getElem?_eq_some_iff.1 hj).2]
theorem splice_tear {cur : List Value} {new old : List UInt8} (hn : new.length = 128) (ho : old.length = 128) (h : cur.take 128 = bcells old) : (splice cur 0 ((bcells new).take 64)).take 128 = bcells (tear new old) := by
  have hl : ((bcells new).take 64).length = 64 := by rw [List.length_take, length_bcells, hn]; rfl
  unfold splice tear
  rw [hl, List.take_zero, List.nil_append, Nat.zero_add, List.take_append, hl, List.take_of_length_le (by rw [hl]; decide)]
  have : (cur.drop 64).take (128 - 64) = bcells (old.drop 64) := by
    rw [← List.drop_take, h]; unfold bcells; rw [List.map_drop]
  rw [this]
  unfold bcells
  rw [List.map_append, List.map_take]
theorem length_tear {new old : List UInt8} (hn : new.length = 128) (ho : old.length = 128) : (tear new old).length = 128 := by unfold tear; rw [List.length_append, List.length_take, List.length_drop]; omega
theorem performD_mem {l : List Wr} : ∀ {s : List (List UInt8)}, (∀ b ∈ s, b.length = 128) → (∀ x ∈ l, x.data.length = 128) → ∀ b ∈ performD l s, b.length = 128 := by
  induction l with
  | nil => exact fun h _ => h
  | cons x r ih =>
    intro s h1 h2
    refine ih (s := s.set x.pos.toNat x.data) (fun b hb => ?_) (fun y hy => h2 y (List.mem_cons_of_mem _ hy))
    rcases List.mem_or_eq_of_mem_set hb with h | h
    · exact h1 b h
    · rw [h]; exact h2 x (List.mem_cons_self ..)
theorem tornD_eq {secs : List (List UInt8)} {pend : List Wr} {m j : Nat} {stop : Bool} (hm : m < pend.length) (hj : pend[m].pos = (j : Int)) (hl : j < (performD (pend.take m) secs).length) :
    tornD ⟨secs, pend, m, stop⟩ = (performD (pend.take m) secs).set j (tear pend[m].data (performD (pend.take m) secs)[j]) := by
  unfold tornD
  show (match pend[(m : Int).toNat]? with | some x => _ | none => _) = _
  rw [show ((m : Int)).toNat = m by omega, List.getElem?_eq_getElem hm]
  show (performD (pend.take m) secs).set pend[m].pos.toNat (tear pend[m].data ((performD (pend.take m) secs).getD pend[m].pos.toNat [])) = _
  rw [hj, show ((j : Int)).toNat = j by omega]
  rw [List.getD_eq_getElem?_getD, List.getElem?_eq_getElem hl]
  rfl
set_option maxRecDepth 100000 in
set_option maxHeartbeats 1500000 in
theorem sync_torn_calls {d : Dsk} {w : World} {F : Foot} {cs : List Value} (h : kDsk.K w F d cs) (hr : d.runs = true) (hst : d.stops = true) :
    Calls Try.prog 23 #[.agg cs.toArray] w (DskF F (syncD d) (syncE d) w) := by
  have H := Lib.hid (Kd.any h)
  obtain ⟨A, c, A', c', rfl, hs, hpe, hl⟩ := kDsk_open (kd_now h)
  have HS := Lib.hid hs
  have HP := Lib.hid hpe
  have HL := Lib.hid hl
  have HE := Lib.hid (sync_torn hr hst)
  have HRF := Lib.hid (valid_facts (runs_facts hr).1)
  have HWR := Lib.hid (valid_wr (runs_facts hr).1)
  have HSE := Lib.hid (valid_sec (runs_facts hr).1)
  have HR := Lib.hid hr
  have hsd : (decide (0 ≤ d.left) && decide (d.left < (d.pend.length : Int))) = true := hst
  rw [Bool.and_eq_true, decide_eq_true_eq, decide_eq_true_eq] at hsd
  clear h hs hpe hl hr hst
  obtain ⟨secs, pend, left, stop⟩ := d
  obtain ⟨s1, s2⟩ := hsd
  obtain ⟨m, hm⟩ : ∃ m : Nat, left = (m : Int) := ⟨left.toNat, by simp only at s1; omega⟩
  subst hm
  simp only at s2 HS HP HL HRF HWR HSE H ⊢
  have s3 : m < pend.length := by omega
  have rp := HRF.out.2.2.1
  have s4 : m ≤ c' := Nat.le_trans (Nat.le_of_lt s3) HP.out.le
  have HB := Lib.hid ((dsk_box w ⟨secs, pend, m, stop⟩ A A' c c').below (below_box (Below.refl _ _) (.cells #[.slice none 0 0, .slice none 0 0, .int .i64 0, .bool false] 25)))
  have HV := Lib.hid (Blk.new (w.alloc (.cells #[.slice A secs.length c, .slice A' pend.length c', .int .i64 m, .bool stop] 25)) 25 [.slice none 0 0, .slice none 0 0, .int .i64 0, .bool false])
  rw [World.size_alloc] at HV
  have HBW : Below w.heap.size w ((w.alloc (.cells #[.slice A secs.length c, .slice A' pend.length c', .int .i64 m, .bool stop] 25)).alloc (.cells #[.slice none 0 0, .slice none 0 0, .int .i64 0, .bool false] 25)) := below_box (below_box (Below.refl _ _) _) _
  obtain ⟨⟨f1, f2, f3, f4⟩, _⟩ := HB.out.facts4
  go_enter Try.func23, Try.ntmps23
  go_wp2_with fail
  refine (runs_as HR.out (Kd.old H.out HBW)).mono ?_
  rintro e w1 ⟨rfl, hb1⟩
  have HBW1 := Lib.hid (below_then HBW hb1)
  have HB1 := Lib.hid (HB.out.below hb1)
  have HV1 := Lib.hid (HV.out.below hb1)
  have hs1 : w.heap.size + 2 ≤ w1.heap.size := by have a1 := hb1.size; rw [World.size_alloc, World.size_alloc] at a1; omega
  obtain ⟨⟨x1, x2, x3, x4⟩, _⟩ := HB1.out.facts4
  have HTL : Hid ((pend.take m).length = m) := by show _ = _; rw [List.length_take]; omega
  go_wp2_with fail
  refine (perform_as (HS.out.below HBW1.out) ((HP.out.below HBW1.out).take (k := m) (c' := m) (by omega) (Nat.le_refl _) s4) rfl HTL.out (fun k hk => Nat.lt_of_lt_of_le hk.2 HBW1.out.size) (fun x hx => ⟨(HWR.out x (List.mem_of_mem_take hx)).1, (HWR.out x (List.mem_of_mem_take hx)).2.1⟩) HRF.out.1 HRF.out.2.1 (by rw [HTL.out]; omega)).mono ?_
  rintro e w7 ⟨v7, rfl, hown7, hb7⟩
  have hlp := length_performD (pend.take m) secs
  obtain ⟨g, cap, cur, rfl, hg, hFg, _⟩ := hown7.block1 rfl (fun e => by rw [e] at hlp; have := HRF.out.1; simp only [List.length_nil] at hlp; omega)
  rw [hlp] at hown7 ⊢
  have HB7 := Lib.hid (HB1.out.below hb7)
  have HV7 := Lib.hid (HV1.out.below hb7)
  have HBW7 := Lib.hid (below_then HBW1.out hb7)
  have HO7 := Lib.hid hown7
  have hg2 : w.heap.size + 2 ≤ g := by omega
  clear hb1 hown7 HB1 HV1 HB HV hFg hg x1 x2 x3 x4 f1 f2 f3 f4
  obtain ⟨⟨g1, g2, g3, g4⟩, g5, g6, g7, g8⟩ := HV7.out.facts4
  obtain ⟨⟨y1, y2, y3, y4⟩, _⟩ := HB7.out.facts4
  go_upto_region 7 with fail
  have hF8 : ¬ Now F w (w.heap.size + 1) := fun h => by have h' : w.heap.size + 1 < w.heap.size := h.2; omega
  have hne : w.heap.size ≠ w.heap.size + 1 := by omega
  have hB8 := (((HB7.out.other (i := 0) (u := .slice (some ⟨g, 0, none⟩) secs.length cap) hne).other (i := 1) (u := .slice none 0 0) hne).other (i := 2) (u := .int .i64 0) hne).other (i := 3) (u := .bool true) hne
  have hV8 := dsk_set4 HV7.out rfl (.slice (some ⟨g, 0, none⟩) secs.length cap) (.slice none 0 0) (.int .i64 0) (.bool true)
  have hW8 := below_set4 HBW7.out (b := w.heap.size + 1) (by omega) (.slice (some ⟨g, 0, none⟩) secs.length cap) (.slice none 0 0) (.int .i64 0) (.bool true)
  have hO8 : Own kBytes 35 ((((w7.setCell ⟨w.heap.size + 1, 0, none⟩ (.slice (some ⟨g, 0, none⟩) secs.length cap)).setCell ⟨w.heap.size + 1, 1, none⟩ (.slice none 0 0)).setCell ⟨w.heap.size + 1, 2, none⟩ (.int .i64 0)).setCell ⟨w.heap.size + 1, 3, none⟩ (.bool true)) w1.heap.size (Now F w) (.slice (some ⟨g, 0, none⟩) secs.length cap) (performD (pend.take m) secs) := by
    refine HO7.out.step (by simp [World.setCell]) (fun k hk _ => ?_)
    have hk' : k ≠ w.heap.size + 1 := by
      rcases hk with hk | hk
      · intro e; rw [e] at hk; exact hF8 hk
      · have e : g = k := by simpa [Value.ownBlock] using hk
        omega
    rw [Below.heap_setCell _ _ _ _ hk', Below.heap_setCell _ _ _ _ hk', Below.heap_setCell _ _ _ _ hk', Below.heap_setCell _ _ _ _ hk']
  clear HB7 HV7 HBW7 HO7 g1 g2 g3 g4 g5 g6 g7 g8 y1 y2 y3 y4 hb7
  generalize ((((w7.setCell ⟨w.heap.size + 1, 0, none⟩ (.slice (some ⟨g, 0, none⟩) secs.length cap)).setCell ⟨w.heap.size + 1, 1, none⟩ (.slice none 0 0)).setCell ⟨w.heap.size + 1, 2, none⟩ (.int .i64 0)).setCell ⟨w.heap.size + 1, 3, none⟩ (.bool true)) = w8 at hB8 hV8 hW8 hO8 ⊢
  have HB8 := Lib.hid hB8
  have HV8 := Lib.hid hV8
  have HW8 := Lib.hid hW8
  have HO8 := Lib.hid hO8
  have hg8 : g < w8.heap.size := (hO8.lt g rfl).2
  obtain ⟨⟨y1, y2, y3, y4⟩, _⟩ := hB8.facts4
  obtain ⟨⟨g1, g2, g3, g4⟩, g5, g6, g7, g8⟩ := hV8.facts4
  clear hB8 hV8 hW8 hO8
  obtain ⟨ad, A1, c1', rfl, p0, p1, hpos, hsl⟩ := wr_at (HP.out.below HW8.out) s3
  obtain ⟨o1, o2, o3⟩ := HWR.out pend[m] (List.getElem_mem s3)
  obtain ⟨j, hj⟩ : ∃ j : Nat, pend[m].pos = (j : Int) := ⟨pend[m].pos.toNat, by omega⟩
  have hjl : j < (performD (pend.take m) secs).length := by rw [hlp]; omega
  have HTD := Lib.hid (tornD_eq (stop := stop) s3 hj hjl)
  have HJ := Lib.hid hj
  rw [hj] at p0 o1 o2
  have HD128 := Lib.hid o3
  have HO128 := Lib.hid (performD_mem (l := pend.take m) HSE.out (fun x hx => (HWR.out x (List.mem_of_mem_take hx)).2.2) _ (List.getElem_mem hjl))
  have HSD := Lib.hid hsl
  have hs8 : SL kBytes w8 (fun k => GapF F w k ∧ k < w8.heap.size) (some ⟨g, 0, none⟩) cap (performD (pend.take m) secs) := by
    obtain ⟨A8, c8, e8, h8⟩ := HO8.out.sl (F' := fun k => GapF F w k ∧ k < w8.heap.size) (fun k hk hl => ⟨.inl hk, hl⟩) (fun k hk => own_is hk ▸ ⟨.inr hg2, hg8⟩)
    injection e8 with e8 _ e9
    subst e8 e9
    exact h8
  obtain ⟨ad8, A9, c9, e8, q0, hs9⟩ := hs8.sl_at hjl
  injection e8 with e8
  subst e8
  rw [addr_add0] at q0
  have HS9 := Lib.hid hs9
  have HS8 := Lib.hid hs8
  have hbx := below_box (Below.refl w8.heap.size w8) (.cells #[.int .i64 j, .slice A1 pend[m].data.length c1'] 54)
  have hN := Blk.new w8 54 [.int .i64 j, .slice A1 pend[m].data.length c1']
  have HN9 := Lib.hid hN
  have HBX := Lib.hid hbx
  have HV9 := Lib.hid (HV8.out.below hbx)
  have hS9 : SL kU8 (w8.alloc (.cells #[.int .i64 j, .slice A1 pend[m].data.length c1'] 54)) (fun k => GapF F w k ∧ k < w8.heap.size) A9 c9 (performD (pend.take m) secs)[j] := hs9.below hbx
  have HS9' := Lib.hid hS9
  have q1 := keepcell hbx q0
  obtain ⟨⟨z1, z2, z3, z4⟩, z5, z6, z7, z8⟩ := (HV8.out.below hbx).facts4
  clear hs8 hs9 hsl hpos o3 hS9 q0 hbx hN
  have HOL : Hid ((performD (pend.take m) secs)[j].length * 1 ≤ 140737488355328) := by show _ ≤ _; rw [HO128.out]; decide
  go_wp2_with fail
  refine (cloneB_calls HS9'.out (fun k hk => by rw [World.size_alloc]; omega) HOL.out).mono ?_
  rintro e w9 ⟨v9, rfl, hown9, hb9⟩
  obtain ⟨t, ct, cur, rfl, ht, hFt, hht, hct, hctm, hcsz, hcells⟩ := hown9.block1 rfl (fun e => by have := HO128.out; rw [e] at this; cases this)
  have HHT : Hid (w9.heap[t]? = some (.cells cur.toList.toArray 5 (0, 0))) := hht
  have HTK : Hid (cur.toList.take 128 = bcells (performD (pend.take m) secs)[j]) := by
    show _ = _
    have := bcells_of hcells
    rwa [HO128.out] at this
  have HCL : Hid (cur.toList.length = ct) := by show _ = _; simpa using hcsz
  rw [HO128.out] at hct ⊢
  rw [World.size_alloc] at ht
  clear hht hcells hown9 HS9' hFt hcsz
  have HV10 := Lib.hid (HV9.out.below hb9)
  have HN10 := Lib.hid (HN9.out.below hb9)
  have HB9 := Lib.hid hb9
  obtain ⟨⟨n1, n2⟩, _⟩ := HN10.out.facts2
  clear hb9
  obtain ⟨X, hX⟩ : ∃ X, X = (bcells pend[m].data).take 64 := ⟨_, rfl⟩
  have HX := Lib.hid hX
  have hXl : X.length = 64 := by rw [hX, List.length_take, length_bcells, HD128.out]; rfl
  clear hX
  have KEEP0 : Hid (∀ w', Below ((w8.alloc (.cells #[.int .i64 j, .slice A1 pend[m].data.length c1'] 54))).heap.size ((w8.alloc (.cells #[.int .i64 j, .slice A1 pend[m].data.length c1'] 54))) w' → (fun w' : World => Below ((w8.alloc (.cells #[.int .i64 j, .slice A1 pend[m].data.length c1'] 54))).heap.size ((w8.alloc (.cells #[.int .i64 j, .slice A1 pend[m].data.length c1'] 54))) w' ∧ (w'.cell? ⟨w8.heap.size, 0, none⟩ = some (.int .i64 j) ∧ w'.cell? ⟨w8.heap.size, 1, none⟩ = some (.slice A1 pend[m].data.length c1'))) w') := fun w' hb => ⟨hb, (HN9.out.below hb).facts2.1⟩
  have KEEP1 := Lib.hid (KEEP0.out _ (below_drew HB9.out))
  have hb64 : (64 : Int) ≤ (ct : Int) := by omega
  have hW9t : Hid (((w8.alloc (.cells #[.int .i64 j, .slice A1 pend[m].data.length c1'] 54))).heap.size ≤ t) := by show _ ≤ _; rw [World.size_alloc]; exact ht
  have HFIT : Hid (0 + X.length ≤ cur.toList.length) := by show _ ≤ _; rw [HCL.out, hXl]; omega
  have HNN : Hid (X.length = Nat.min pend[m].data.length 64) := by show _ = _; rw [hXl, HD128.out]; rfl
  have HPP : Hid (∃ a1, A1 = some a1 ∧ ∀ i v, X[i]? = some v → w9.drew.cell? (a1.add i) = some v) := by
    obtain ⟨a1, e1, hc1⟩ := bytes_src ((HSD.out.below (below_then (below_box (Below.refl _ _) _) (below_drew HB9.out)))) (by rw [HD128.out]; decide)
    refine ⟨a1, e1, fun i v hv => hc1 i v ?_⟩
    rw [HX.out, List.getElem?_take] at hv
    split at hv
    · exact hv
    · cases hv
  clear hXl
  go_wp2_with fail
  go_region_held3 (fun w' : World => Below ((w8.alloc (.cells #[.int .i64 j, .slice A1 pend[m].data.length c1'] 54))).heap.size ((w8.alloc (.cells #[.int .i64 j, .slice A1 pend[m].data.length c1'] 54))) w' ∧ (w'.cell? ⟨w8.heap.size, 0, none⟩ = some (.int .i64 j) ∧ w'.cell? ⟨w8.heap.size, 1, none⟩ = some (.slice A1 pend[m].data.length c1'))) (first | exact KEEP1.out | exact KEEP0.out _ hb10 | assumption) (first | (refine step_copy_splice (o := ⟨some 53, _, _, _, _, _⟩) rfl (.tmp 50) (.tmp 52) _ _ rfl 5 Try.underlying35 (by kernel_rfl) _ _ _ _ _ _ rfl rfl t 0 cur.toList 5 HHT.out X HNN.out (fun _ => ⟨rfl, HPP.out⟩) HFIT.out (by rw [HX.out]; exact fun v hv => bcells_one _ v (List.mem_of_mem_take hv)) ((w8.alloc (.cells #[.int .i64 j, .slice A1 pend[m].data.length c1'] 54))).heap.size ((w8.alloc (.cells #[.int .i64 j, .slice A1 pend[m].data.length c1'] 54))) (below_drew HB9.out) hW9t.out ?_; intro w10 hg10 hb10))
  rename_i hHeld
  obtain ⟨_, n3, n4⟩ := hHeld
  have hB10 := Lib.hid (below_then HBX.out hb10)
  have HB10 := Lib.hid (below_then HW8.out hB10.out)
  have HV11 := Lib.hid (HV9.out.below hb10)
  have htl : (tear pend[m].data (performD (pend.take m) secs)[j]).length = 128 := length_tear HD128.out HO128.out
  have hW9g : g < ((w8.alloc (.cells #[.int .i64 j, .slice A1 pend[m].data.length c1'] 54))).heap.size := by rw [World.size_alloc]; omega
  have hT : Own kU8 5 w10 ((w8.alloc (.cells #[.int .i64 j, .slice A1 pend[m].data.length c1'] 54))).heap.size (fun _ => False) (.slice (some ⟨t, 0, none⟩) 128 ct) (tear pend[m].data (performD (pend.take m) secs)[j]) := by
    have := own_bytes_room (F := fun _ => False) (bs := tear pend[m].data (performD (pend.take m) secs)[j]) hW9t.out (fun h => h) hg10.out hctm (by rw [length_splice _ _ _ HFIT.out]; exact HCL.out) (by rw [htl]; exact hct) (by rw [htl, HX.out]; exact splice_tear HD128.out HO128.out HTK.out)
    rwa [htl] at this
  have hgt : g < t := Nat.lt_of_lt_of_le hW9g hW9t.out
  have hK10 : kBytes.K w10 (fun k => GapF F w k ∧ k ≠ g) (tear pend[m].data (performD (pend.take m) secs)[j]) [.slice (some ⟨t, 0, none⟩) 128 ct] := by
    obtain ⟨A11, c11, e11, h11⟩ := hT.sl (F' := fun k => GapF F w k ∧ k ≠ g) (fun _ h => h.elim) (fun k hk => own_is hk ▸ ⟨.inr (by omega), by omega⟩)
    exact ⟨A11, c11, by rw [e11], h11⟩
  have hO10 := ((HO8.out.below hB10.out).mono (F' := fun k => GapF F w k ∧ k ≠ g) (fun k hk _ => ⟨.inl hk, fun e => by have hk' : k < w.heap.size := hk.2; omega⟩) (fun k hk h => h.2 (own_is hk).symm)).set1_at rfl (j := j) hjl hK10
  obtain ⟨k1, k2, ⟨u, k3⟩, k4, k5⟩ := hO10
  have HO11 := Lib.hid k5
  obtain ⟨⟨z1, z2, z3, z4⟩, z5, z6, z7, z8⟩ := HV11.out.facts4
  clear k5 hT hK10 hb10 hg10 htl y1 y2 y3 y4
  go_wp2
  have h12 : SL kBytes (w10.setCell ⟨g, j, none⟩ (.slice (some ⟨t, 0, none⟩) 128 ct)) (GapF F w) (some ⟨g, 0, none⟩) cap ((performD (pend.take m) secs).set j (tear pend[m].data (performD (pend.take m) secs)[j])) := by
    obtain ⟨A12, c12, e12, h12⟩ := HO11.out.sl (F' := GapF F w) (fun k hk _ => hk.1) (fun k hk => own_is hk ▸ .inr hg2)
    injection e12 with e12 _ e13
    subst e12 e13
    exact h12
  have hl12 : ((performD (pend.take m) secs).set j (tear pend[m].data (performD (pend.take m) secs)[j])).length = secs.length := by rw [List.length_set, hlp]
  have hK := kDsk_mk (d := ⟨(performD (pend.take m) secs).set j (tear pend[m].data (performD (pend.take m) secs)[j]), [], 0, true⟩) h12 (SL.nil (A := none) (c := 0) (Nat.zero_le _)) (show I64 0 by unfold I64; decide)
  have hl13 : ((⟨(performD (pend.take m) secs).set j (tear pend[m].data (performD (pend.take m) secs)[j]), [], 0, true⟩ : Dsk).secs).length = secs.length := hl12
  rw [hl13] at hK
  have hEE := HE.out
  rw [hEE.1, hEE.2, HTD.out]
  exact dskF_leave gapF_fut rfl (HV11.out.other (v := g) (i := j) (by omega)) rfl hK (fun h => by rcases h with ⟨_, h⟩ | h <;> omega) (HB10.out.setCell (by show w.heap.size ≤ g; omega) _) (by omega) rfl rfl
theorem syncF_calls {d : Dsk} {w : World} {F : Foot} {cs : List Value} (h : kDsk.K w F d cs) :
    Calls Try.prog 23 #[.agg cs.toArray] w (DskF F (syncD d) (syncE d) w) := by
  cases hr : d.runs
  · exact sync_plain_calls h (fun e => by rw [hr] at e; cases e)
  · cases hst : d.stops
    · exact sync_plain_calls h (fun _ => hst)
    · exact sync_torn_calls h hr hst
theorem sync_calls {d : Dsk} {w : World} {cs : List Value} (h : kDsk.K w (Old w) d cs) :
    Calls Try.prog 23 #[.agg cs.toArray] w (DskE (syncD d) (syncE d) w) := (syncF_calls h).mono fun _ _ h => h.old
end Go.Proofs.Ytmcdimcjmafaoaa.B
