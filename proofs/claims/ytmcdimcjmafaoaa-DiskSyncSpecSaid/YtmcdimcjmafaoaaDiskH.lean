import Derived.Test.YtmcdimcjmafaoaaDiskG
namespace Go.Proofs.Ytmcdimcjmafaoaa.B
set_option linter.unusedVariables false
set_option linter.unusedSimpArgs false
open Go.RowKit

/-- What is not the box nor the result's block of a call that began at w. -/
abbrev Gap (w : World) : Foot := fun k => k < w.heap.size ∨ w.heap.size + 2 ≤ k
abbrev GapF (F : Foot) (w : World) : Foot := fun k => Now F w k ∨ w.heap.size + 2 ≤ k
theorem gapF_fut {F : Foot} {w : World} : ∀ k, GapF F w k → Fut F w k := fun k hk => by rcases hk with h | h; exact .inl h; exact .inr (by omega)
def zcells : List Value := (List.replicate 128 (0 : UInt8)).map (fun b => Value.int .u8 (b.toNat : Int))
theorem Blk.cells0 {w : World} {g : Nat} {t : TypeId} {cs : List Value} (h : Blk w g t cs) : ∀ i u, cs[i]? = some u → w.cell? ((⟨g, 0, none⟩ : Addr).add i) = some u := by
  intro i u hu
  have := h.cell hu
  simp only [Addr.add, Nat.zero_add]
  split
  · rename_i h0; subst h0; exact this
  · exact this
def bcells (b : List UInt8) : List Value := b.map (fun b => Value.int .u8 (b.toNat : Int))
theorem make128z (w : World) : (Instr.makeSlice 35 (.int .i64 128) (.int .i64 128)).run Try.prog w = .ok (.slice (some ⟨w.heap.size, 0, none⟩) 128 128) (w.alloc (.cells zcells.toArray 5)) := make128 w
theorem length_bcells (b : List UInt8) : (bcells b).length = b.length := by simp [bcells]
theorem length_pad {b : List UInt8} (h : b.length ≤ 128) : (pad b).length = 128 := by simp [pad]; omega
theorem splice_pad {b : List UInt8} (h : b.length ≤ 128) : splice zcells 0 (bcells b) = bcells (pad b) := by
  have h1 : zcells.drop (0 + (bcells b).length) = bcells (List.replicate (128 - b.length) 0) := by
    rw [length_bcells, Nat.zero_add]
    unfold zcells bcells
    rw [← List.map_drop, List.drop_replicate]
  unfold splice
  rw [h1]
  simp [bcells, pad]
theorem bytes_src {w : World} {F : Foot} {A : Option Addr} {c : Nat} {b : List UInt8} (h : SL kU8 w F A c b) (h0 : 0 < b.length) : ∃ ad, A = some ad ∧ ∀ j v, (bcells b)[j]? = some v → w.cell? (ad.add j) = some v := by
  obtain ⟨ad, _, hA, _⟩ := h.row.at_ h0
  refine ⟨ad, hA, fun j v hj => ?_⟩
  unfold bcells at hj
  rw [List.getElem?_map] at hj
  cases hx : b[j]? with
  | none => rw [hx] at hj; cases hj
  | some x =>
    rw [hx] at hj
    injection hj with hj
    subst hj
    have hl := (List.getElem?_eq_some_iff.1 hx).1
    obtain ⟨ad', cs, hA', _, _, hK, hc⟩ := h.row.at_ (i := j) hl
    rw [hA] at hA'
    injection hA' with hA'
    subst hA'
    have e : cs = [.int .u8 (b[j].toNat : Int)] := hK
    subst e
    have := hc 0 _ rfl
    rw [← (List.getElem?_eq_some_iff.1 hx).2]
    simpa [kU8] using this
theorem bcells_one (b : List UInt8) : ∀ v ∈ bcells b, v.oneCell' = true := by
  intro v hv
  obtain ⟨x, _, rfl⟩ := List.mem_map.1 hv
  rfl
theorem writeE_no {d : Dsk} {p : Int} {b : List UInt8} (h : (d.runs && d.has p) = false) : writeE d p b = 470 ∧ writeD d p b = zeroD := by
  have h1 : writeE d p b = 470 := by unfold writeE; rw [h]; rfl
  exact ⟨h1, by unfold writeD; rw [h1]; rfl⟩
theorem writeE_at {d : Dsk} {p : Int} {b : List UInt8} (h : (d.runs && d.has p) = true) : writeE d p b = if 128 < b.length then 1 else if d.pend.length = 4096 then 2 else 0 := by
  unfold writeE; rw [h]; rfl
theorem runs_facts {d : Dsk} (h : d.runs = true) : d.valid = true ∧ d.stop = false := by
  unfold Dsk.runs at h
  rw [Bool.and_eq_true] at h
  refine ⟨h.1, ?_⟩
  cases hs : d.stop
  · rfl
  · rw [hs] at h; exact absurd h.2 (by decide)
theorem valid_facts {d : Dsk} (h : d.valid = true) : 1 ≤ d.secs.length ∧ d.secs.length ≤ 4096 ∧ d.pend.length ≤ 4096 ∧ -1 ≤ d.left ∧ d.left ≤ 65536 := by
  unfold Dsk.valid at h
  simp only [Bool.and_eq_true, decide_eq_true_eq] at h
  exact ⟨h.1.1.1.1.1.1, h.1.1.1.1.1.2, h.1.1.1.1.2, h.1.1.1.2, h.1.1.2⟩
set_option maxRecDepth 100000 in
set_option maxHeartbeats 4000000 in
theorem writeF_calls {d : Dsk} {p : Int} {b : List UInt8} {w : World} {F : Foot} {cs : List Value} {Ab : Option Addr} {cb : Nat} (h : kDsk.K w F d cs) (hp : I64 p) (hb : SL kU8 w (Old w) Ab cb b) :
    Calls Try.prog 19 #[.agg cs.toArray, .int .i64 p, .slice Ab b.length cb] w (DskF F (writeD d p b) (writeE d p b) w) := by
  have H := Lib.hid (Kd.any h)
  obtain ⟨A, c, A', c', rfl, hs, hpe, hl⟩ := kDsk_open (kd_now h)
  have HS := Lib.hid hs
  have HP := Lib.hid hpe
  have HI := Lib.hid hp
  have HL := Lib.hid hl
  have HBS := Lib.hid hb
  have hbm : Hid (b.length ≤ maxLen) := Nat.le_trans hb.le hb.max
  clear h hs hpe hp hb hl
  have HB := Lib.hid ((dsk_box w d A A' c c').below (below_box (Below.refl _ _) (.cells #[.slice none 0 0, .slice none 0 0, .int .i64 0, .bool false] 25)))
  have HV := Lib.hid (Blk.new (w.alloc (.cells #[.slice A d.secs.length c, .slice A' d.pend.length c', .int .i64 d.left, .bool d.stop] 25)) 25 [.slice none 0 0, .slice none 0 0, .int .i64 0, .bool false])
  rw [World.size_alloc] at HV
  have HBW : Below w.heap.size w ((w.alloc (.cells #[.slice A d.secs.length c, .slice A' d.pend.length c', .int .i64 d.left, .bool d.stop] 25)).alloc (.cells #[.slice none 0 0, .slice none 0 0, .int .i64 0, .bool false] 25)) := below_box (below_box (Below.refl _ _) _) _
  obtain ⟨⟨f1, f2, f3, f4⟩, _⟩ := HB.out.facts4
  go_enter Try.func19, Try.ntmps19
  cases hr : d.runs
  · have HR := Lib.hid hr
    have HE := Lib.hid (writeE_no (b := b) (p := p) (d := d) (by rw [hr]; rfl))
    clear hr
    go_wp2_with fail
    refine (runs_as HR.out (Kd.old H.out HBW)).mono ?_
    rintro e w1 ⟨rfl, hb1⟩
    obtain ⟨⟨g1, g2, g3, g4⟩, g5, g6, g7, g8⟩ := (HV.out.below hb1).facts4
    go_wp2
    rw [HE.out.1, HE.out.2]
    exact dskF_leave (fun _ h => h.elim) rfl (HV.out.below hb1) rfl (kZeroD _ (fun _ => False)) (fun h => h) (below_then HBW hb1) (by omega) rfl rfl
  · have HRF := Lib.hid (valid_facts (runs_facts hr).1)
    have HR := Lib.hid hr
    cases hh : d.has p
    · have HH := Lib.hid hh
      have HE := Lib.hid (writeE_no (b := b) (p := p) (d := d) (by rw [hr, hh]; rfl))
      clear hr hh
      go_wp2_with fail
      refine (runs_as HR.out (Kd.old H.out HBW)).mono ?_
      rintro e w1 ⟨rfl, hb1⟩
      obtain ⟨⟨e1, e2, e3, e4⟩, _⟩ := (HB.out.below hb1).facts4
      go_wp2_with fail
      refine (has_as HH.out (Kd.old H.out (below_then HBW hb1)) HI.out).mono ?_
      rintro e w2 ⟨rfl, hb2⟩
      obtain ⟨⟨g1, g2, g3, g4⟩, g5, g6, g7, g8⟩ := ((HV.out.below hb1).below hb2).facts4
      go_wp2
      rw [HE.out.1, HE.out.2]
      exact dskF_leave (fun _ h => h.elim) rfl ((HV.out.below hb1).below hb2) rfl (kZeroD _ (fun _ => False)) (fun h => h) (below_then (below_then HBW hb1) hb2) (by omega) rfl rfl
    · have HH := Lib.hid hh
      have HE0 := Lib.hid (writeE_at (b := b) (p := p) (d := d) (by rw [hr, hh]; rfl))
      clear hr hh
      by_cases h1 : 128 < b.length
      · have HE : Hid (writeE d p b = 1 ∧ writeD d p b = zeroD) := by
          have h2 : writeE d p b = 1 := by rw [HE0.out, if_pos h1]
          exact ⟨h2, by unfold writeD; rw [h2]; rfl⟩
        go_wp2_with fail
        refine (runs_as HR.out (Kd.old H.out HBW)).mono ?_
        rintro e w1 ⟨rfl, hb1⟩
        obtain ⟨⟨e1, e2, e3, e4⟩, _⟩ := (HB.out.below hb1).facts4
        go_wp2_with fail
        refine (has_as HH.out (Kd.old H.out (below_then HBW hb1)) HI.out).mono ?_
        rintro e w2 ⟨rfl, hb2⟩
        obtain ⟨⟨g1, g2, g3, g4⟩, g5, g6, g7, g8⟩ := ((HV.out.below hb1).below hb2).facts4
        go_wp2
        rw [HE.out.1, HE.out.2]
        exact dskF_leave (fun _ h => h.elim) rfl ((HV.out.below hb1).below hb2) rfl (kZeroD _ (fun _ => False)) (fun h => h) (below_then (below_then HBW hb1) hb2) (by omega) rfl rfl
      · by_cases h2 : d.pend.length = 4096
        · have HE : Hid (writeE d p b = 2 ∧ writeD d p b = zeroD) := by
            have h3 : writeE d p b = 2 := by rw [HE0.out, if_neg h1, if_pos h2]
            exact ⟨h3, by unfold writeD; rw [h3]; rfl⟩
          have h2' : (d.pend.length : Int) = 4096 := by omega
          clear h2
          go_wp2_with fail
          refine (runs_as HR.out (Kd.old H.out HBW)).mono ?_
          rintro e w1 ⟨rfl, hb1⟩
          obtain ⟨⟨e1, e2, e3, e4⟩, _⟩ := (HB.out.below hb1).facts4
          go_wp2_with fail
          refine (has_as HH.out (Kd.old H.out (below_then HBW hb1)) HI.out).mono ?_
          rintro e w2 ⟨rfl, hb2⟩
          obtain ⟨⟨x1, x2, x3, x4⟩, _⟩ := ((HB.out.below hb1).below hb2).facts4
          obtain ⟨⟨g1, g2, g3, g4⟩, g5, g6, g7, g8⟩ := ((HV.out.below hb1).below hb2).facts4
          go_wp2
          rw [HE.out.1, HE.out.2]
          exact dskF_leave (fun _ h => h.elim) rfl ((HV.out.below hb1).below hb2) rfl (kZeroD _ (fun _ => False)) (fun h => h) (below_then (below_then HBW hb1) hb2) (by omega) rfl rfl
        · have HE : Hid (writeE d p b = 0 ∧ writeD d p b = { d with pend := d.pend ++ [⟨p, pad b⟩] }) := by
            have h3 : writeE d p b = 0 := by rw [HE0.out, if_neg h1, if_neg h2]
            exact ⟨h3, by unfold writeD; rw [h3]; rfl⟩
          have h2' : ¬ (d.pend.length : Int) = 4096 := by omega
          have h1' : Hid (b.length ≤ 128) := by show b.length ≤ 128; omega
          have hpl : Hid (d.pend.length * 32 ≤ 140737488355328) := by show _ ≤ _; have := HRF.out.2.2.1; omega
          have hpl' : Hid ((d.pend.length + 1) * 32 ≤ 140737488355328) := by show _ ≤ _; have := HRF.out.2.2.1; omega
          clear h2
          have hmk := fun w => make128z w
          obtain ⟨X, hX⟩ : ∃ X, X = bcells b := ⟨_, rfl⟩
          have HX := Lib.hid hX
          have hXl : X.length = b.length := by rw [hX, length_bcells]
          clear hX
          go_wp2_with fail
          refine (runs_as HR.out (Kd.old H.out HBW)).mono ?_
          rintro e w1 ⟨rfl, hb1⟩
          obtain ⟨⟨e1, e2, e3, e4⟩, _⟩ := (HB.out.below hb1).facts4
          go_wp2_with fail
          refine (has_as HH.out (Kd.old H.out (below_then HBW hb1)) HI.out).mono ?_
          rintro e w2 ⟨rfl, hb2⟩
          have HB2 := Lib.hid ((HB.out.below hb1).below hb2)
          have HV2 := Lib.hid ((HV.out.below hb1).below hb2)
          have HBW2 := Lib.hid (below_then (below_then HBW hb1) hb2)
          have hs2 : w.heap.size + 2 ≤ w2.heap.size := by have a1 := hb1.size; have a2 := hb2.size; rw [World.size_alloc, World.size_alloc] at a1; omega
          obtain ⟨⟨x1, x2, x3, x4⟩, _⟩ := HB2.out.facts4
          go_wp2_with (refine wpList_copy_splice (o := ⟨some 34, _, _, _, _, _⟩) rfl (.tmp 32) (.tmp 33) _ _ rfl 5 Try.underlying35 (by kernel_rfl) _ _ _ _ _ _ rfl rfl w2.heap.size 0 zcells 5 (Blk.new w2 5 zcells) X (by rw [hXl]; exact (Nat.min_eq_left h1'.out).symm) (fun h0 => ⟨rfl, by rw [hXl] at h0; obtain ⟨ad, ha, hc⟩ := bytes_src (HBS.out.old (below_then HBW2.out (below_box (Below.refl _ _) (.cells zcells.toArray 5)))) h0; exact ⟨ad, ha, by rw [HX.out]; exact hc⟩⟩) (by rw [hXl]; have := h1'.out; simp [zcells]; omega) (by rw [HX.out]; exact bcells_one b) w2.heap.size w2 (below_box (Below.refl _ _) _) (Nat.le_refl _) ?_; intro w3 hg3 hb3; obtain ⟨⟨y1, y2, y3, y4⟩, _⟩ := (HB2.out.below hb3).facts4)
          have HB3 := Lib.hid (HB2.out.below hb3)
          have HV3 := Lib.hid (HV2.out.below hb3)
          have HBW3 := Lib.hid (below_then HBW2.out hb3)
          refine (cloneW_calls (HP.out.below HBW3.out) (fun k hk => Nat.lt_of_lt_of_le hk.2 HBW3.out.size) hpl.out).mono ?_
          rintro e w4 ⟨v4, rfl, hown4, hb4⟩
          obtain ⟨A4, c4, rfl, hs4⟩ := hown4.sl (F' := GapF F w) (fun k hk _ => .inl hk) (fun k hk => .inr (by have := (hown4.lt k hk).1; have := hb3.size; omega))
          have HS4 := Lib.hid hs4
          have HG4 : Hid (Blk w4 w2.heap.size 5 (bcells (pad b))) := by
            have h := hg3.out
            rw [HX.out, splice_pad h1'.out] at h
            exact Blk.below h hb4
          have HB4 := Lib.hid (HB3.out.below hb4)
          have HV4 := Lib.hid (HV3.out.below hb4)
          have HBW4 := Lib.hid (below_then HBW3.out hb4)
          have hle4 := hs4.le
          clear hs4 hown4 hg3
          obtain ⟨⟨z1, z2, z3, z4⟩, _⟩ := HB4.out.facts4
          go_wp2_with fail
          refine (clipW_calls hle4).mono ?_
          rintro e w5 ⟨rfl, rfl⟩
          have HN : Hid (Blk (w4.alloc (.cells #[.int .i64 p, .slice (some ⟨w2.heap.size, 0, none⟩) 128 128] 54)) w4.heap.size 54 [.int .i64 p, .slice (some ⟨w2.heap.size, 0, none⟩) 128 128]) := Blk.new w4 54 [.int .i64 p, .slice (some ⟨w2.heap.size, 0, none⟩) 128 128]
          have hb5 := Lib.hid (below_box (Below.refl w4.heap.size w4) (.cells #[.int .i64 p, .slice (some ⟨w2.heap.size, 0, none⟩) 128 128] 54))
          have HSL : Hid (SL kWr (w4.alloc (.cells #[.int .i64 p, .slice (some ⟨w2.heap.size, 0, none⟩) 128 128] 54)) (fun k => GapF F w k ∧ k < (w4.alloc (.cells #[.int .i64 p, .slice (some ⟨w2.heap.size, 0, none⟩) 128 128] 54)).heap.size) A4 d.pend.length d.pend) := by
            have h := (HS4.out.below hb5.out).mono (F' := fun k => GapF F w k ∧ k < (w4.alloc (.cells #[.int .i64 p, .slice (some ⟨w2.heap.size, 0, none⟩) 128 128] 54)).heap.size) (fun k hk hl => ⟨hk, hl⟩)
            exact ⟨Nat.le_refl _, Nat.le_trans h.le h.max, h.row⟩
          have HKW : Hid (kWr.K (w4.alloc (.cells #[.int .i64 p, .slice (some ⟨w2.heap.size, 0, none⟩) 128 128] 54)) (fun k => GapF F w k ∧ k < (w4.alloc (.cells #[.int .i64 p, .slice (some ⟨w2.heap.size, 0, none⟩) 128 128] 54)).heap.size) ⟨p, pad b⟩ [.int .i64 p, .slice (some ⟨w2.heap.size, 0, none⟩) 128 128]) := by
            have h5 : Blk (w4.alloc (.cells #[.int .i64 p, .slice (some ⟨w2.heap.size, 0, none⟩) 128 128] 54)) w2.heap.size 5 (bcells (pad b)) := HG4.out.below hb5.out
            have hl := length_pad h1'.out
            have ho := own_bytes_block (B := w.heap.size + 2) (F := fun _ => False) (pad b) hs2 (fun h => h) h5 (by rw [hl]; decide)
            rw [hl] at ho
            obtain ⟨A6, c6, e6, hs6⟩ := ho.sl (F' := fun k => GapF F w k ∧ k < (w4.alloc (.cells #[.int .i64 p, .slice (some ⟨w2.heap.size, 0, none⟩) 128 128] 54)).heap.size) (fun _ h => h.elim) (fun k hk => ⟨.inr (ho.lt k hk).1, (ho.lt k hk).2⟩)
            rw [hl] at e6
            injection e6 with e6 e7 e8
            subst e6 e8
            have := kWr_mk (x := ⟨p, pad b⟩) HI.out hs6
            rwa [show (pad b).length = 128 from hl] at this
          go_wp2_with (at_builtin; refine wpList_grows1 rfl (.tmp 38) (.tmp 42) _ rfl E_wr ⟨p, pad b⟩ [.int .i64 p, .slice (some ⟨w2.heap.size, 0, none⟩) 128 128] HSL.out rfl rfl ⟨w4.heap.size, 0, none⟩ 1 rfl HKW.out HN.out.cells0 (fun _ h => h.2) hpl'.out (by decide) ?_; intro v6 w6 hown6 hg6; obtain ⟨A6, c6, rfl, hs6⟩ := hown6.sl (F' := GapF F w) (fun k hk _ => hk.1) (fun k hk => .inr (by have := (hown6.lt k hk).1; have := hb5.out.size; have := hb4.size; have := hb3.size; omega)); obtain ⟨⟨y1, y2, y3, y4⟩, y5, y6, y7, y8⟩ := ((HB4.out.below hb5.out).grown hg6 (by simp)).facts4; obtain ⟨⟨g1, g2, g3, g4⟩, g5, g6, g7, g8⟩ := ((HV4.out.below hb5.out).grown hg6 (by simp)).facts4)
          rw [HE.out.1, HE.out.2]
          have hl6 : (d.pend ++ [(⟨p, pad b⟩ : Wr)]).length = d.pend.length + 1 := by simp
          have HBW6 := below_then (below_then HBW4.out hb5.out) (below_grown_none hg6)
          have HV6 := ((HV4.out.below hb5.out).grown hg6 (by simp))
          have hm : ∀ k, GapF F w k → k < w6.heap.size → (w6.setCell ⟨w.heap.size, 1, none⟩ (.slice A6 (d.pend.length + 1) c6)).heap[k]? = w6.heap[k]? := fun k hk _ => Below.heap_setCell _ _ _ _ (fun e => by have e' : k = w.heap.size := e; rcases hk with ⟨_, hk⟩ | hk <;> omega)
          have hsz : w6.heap.size ≤ (w6.setCell ⟨w.heap.size, 1, none⟩ (.slice A6 (d.pend.length + 1) c6)).heap.size := by simp [World.setCell]
          have HK := kDsk_mk (d := { d with pend := d.pend ++ [⟨p, pad b⟩] }) (((HS.out.below HBW6).mono (F' := GapF F w) (fun k hk _ => .inl hk)).move hm hsz) (hs6.move hm hsz) HL.out
          have hl7 : (({ d with pend := d.pend ++ [⟨p, pad b⟩] } : Dsk).pend).length = d.pend.length + 1 := hl6
          rw [hl7] at HK
          exact dskF_leave gapF_fut rfl (HV6.other (v := w.heap.size) (i := 1) (by omega)) rfl HK (fun h => by rcases h with ⟨_, h⟩ | h <;> omega) (HBW6.setCell (Nat.le_refl _) _) (by omega) rfl rfl
theorem write_calls {d : Dsk} {p : Int} {b : List UInt8} {w : World} {cs : List Value} {Ab : Option Addr} {cb : Nat} (h : kDsk.K w (Old w) d cs) (hp : I64 p) (hb : SL kU8 w (Old w) Ab cb b) :
    Calls Try.prog 19 #[.agg cs.toArray, .int .i64 p, .slice Ab b.length cb] w (DskE (writeD d p b) (writeE d p b) w) := (writeF_calls h hp hb).mono fun _ _ h => h.old
end Go.Proofs.Ytmcdimcjmafaoaa.B
