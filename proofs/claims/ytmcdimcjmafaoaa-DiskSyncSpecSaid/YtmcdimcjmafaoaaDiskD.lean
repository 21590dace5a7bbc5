import Derived.Test.YtmcdimcjmafaoaaDiskC
namespace Go.Proofs.Ytmcdimcjmafaoaa.B
set_option linter.unusedVariables false
set_option linter.unusedSimpArgs false
open Go.RowKit

theorem checkD_cases (d : Dsk) : (d.valid = true ∧ checkD d = 0) ∨ (d.valid = false ∧ checkD d = 470) := by
  cases h : d.valid
  · exact .inr ⟨rfl, checkD_bad h⟩
  · exact .inl ⟨rfl, checkD_ok h⟩
theorem checkD_as {d : Dsk} {z : Int} (hz : checkD d = z) {w : World} {cs : List Value} (h : kDsk.K w (Old w) d cs) : Calls Try.prog 15 #[.agg cs.toArray] w (Says (.int .i64 z) w) := by subst hz; exact checkD_calls h
/-- A disk's box. -/
theorem dsk_box (w : World) (d : Dsk) (A A' : Option Addr) (c c' : Nat) : Blk (w.alloc (.cells #[.slice A d.secs.length c, .slice A' d.pend.length c', .int .i64 d.left, .bool d.stop] 25)) w.heap.size 25 [.slice A d.secs.length c, .slice A' d.pend.length c', .int .i64 d.left, .bool d.stop] :=
  Blk.new w 25 [.slice A d.secs.length c, .slice A' d.pend.length c', .int .i64 d.left, .bool d.stop]
set_option maxRecDepth 100000 in
set_option maxHeartbeats 1000000 in
theorem runs_calls {d : Dsk} {w : World} {cs : List Value} (h : kDsk.K w (Old w) d cs) : Calls Try.prog 35 #[.agg cs.toArray] w (Says (.bool d.runs) w) := by
  have H := Lib.hid h
  obtain ⟨A, c, A', c', rfl, _, _, _⟩ := kDsk_open h
  clear h
  have HB := Lib.hid (dsk_box w d A A' c c')
  rcases checkD_cases d with ⟨hv, hz⟩ | ⟨hv, hz⟩
  · have HZ := Lib.hid hz
    cases hs : d.stop
    all_goals
      have HR : Hid (d.runs = !d.stop) := by show d.runs = !d.stop; unfold Dsk.runs; rw [hv]; rfl
      rw [hs] at HR
      have HS := Lib.hid hs
      clear hv hz hs
      go_enter Try.func35, Try.ntmps35
      go_wp2_with fail
      refine (checkD_as HZ.out (by have := Kd.old H.out (below_box (Below.refl _ _) (.cells #[.slice A d.secs.length c, .slice A' d.pend.length c', .int .i64 d.left, .bool d.stop] 25)); rwa [HS.out] at this)).mono ?_
      rintro e w1 ⟨rfl, hb1⟩
      have hx := HB.out
      rw [HS.out] at hx
      obtain ⟨⟨f1, f2, f3, f4⟩, _⟩ := (hx.below hb1).facts4
      clear hx
      go_wp2
      go_ret
      exact Says.of (by rw [HR.out]; rfl) (below_then (below_box (Below.refl _ _) _) hb1)
  · have HZ := Lib.hid hz
    have HR : Hid (d.runs = false) := by show d.runs = false; unfold Dsk.runs; rw [hv]; rfl
    clear hv hz
    go_enter Try.func35, Try.ntmps35
    go_wp2_with fail
    refine (checkD_as HZ.out (Kd.old H.out (below_box (Below.refl _ _) _))).mono ?_
    rintro e w1 ⟨rfl, hb1⟩
    go_wp2
    go_ret
    exact Says.of (by rw [HR.out]; rfl) (below_then (below_box (Below.refl _ _) _) hb1)
theorem runs_as {d : Dsk} {z : Bool} (hz : d.runs = z) {w : World} {cs : List Value} (h : kDsk.K w (Old w) d cs) : Calls Try.prog 35 #[.agg cs.toArray] w (Says (.bool z) w) := by subst hz; exact runs_calls h
set_option maxRecDepth 100000 in
set_option maxHeartbeats 1000000 in
theorem has_as {d : Dsk} {p : Int} {z : Bool} (hz : d.has p = z) {w : World} {cs : List Value} (h : kDsk.K w (Old w) d cs) (hp : I64 p) : Calls Try.prog 36 #[.agg cs.toArray, .int .i64 p] w (Says (.bool z) w) := by
  obtain ⟨A, c, A', c', rfl, _, _, _⟩ := kDsk_open h
  clear h
  obtain ⟨p1, p2⟩ := hp
  obtain ⟨⟨f1, f2, f3, f4⟩, _⟩ := (dsk_box w d A A' c c').facts4
  have HZ := Lib.hid hz
  clear hz
  have HH : Hid (d.has p = (decide (0 ≤ p) && decide (p < (d.secs.length : Int)))) := rfl
  by_cases h1 : p < 0
  · go_enter Try.func36, Try.ntmps36
    go_wp2
    go_ret
    exact Says.of (by rw [← HZ.out, HH.out, decide_eq_false (by omega : ¬ 0 ≤ p)]; rfl) (below_box (Below.refl _ _) _)
  · go_enter Try.func36, Try.ntmps36
    go_wp2
    go_ret
    exact Says.of (by rw [← HZ.out, HH.out, decide_eq_true (by omega : 0 ≤ p)]; rfl) (below_box (Below.refl _ _) _)

/-- Of some blocks those that are there. -/
abbrev Now (F : Foot) (w : World) : Foot := fun k => F k ∧ k < w.heap.size
/-- .. and those that are made from now on. -/
abbrev Fut (F : Foot) (w : World) : Foot := fun k => Now F w k ∨ w.heap.size ≤ k
theorem kd_now {α : Type} {d : Kd α} {w : World} {F : Foot} {x : α} {cs : List Value} (h : d.K w F x cs) : d.K w (Now F w) x cs := d.mono (fun _ hk hl => ⟨hk, hl⟩) h
/-- A disk that is handed back. -/
def DskRF (F : Foot) (d : Dsk) (w : World) (e : Ending) (w' : World) : Prop := ∃ cs, e = .returned (.agg cs.toArray) ∧ kDsk.K w' (Fut F w) d cs ∧ Below w.heap.size w w'
/-- A disk and an error. -/
def DskF (F : Foot) (d : Dsk) (z : Int) (w : World) (e : Ending) (w' : World) : Prop := ∃ cs, e = .returned (.tuple #[.agg cs.toArray, .int .i64 z]) ∧ kDsk.K w' (Fut F w) d cs ∧ Below w.heap.size w w'
/-- A disk that is handed back. -/
def DskR (d : Dsk) (w : World) (e : Ending) (w' : World) : Prop := ∃ cs, e = .returned (.agg cs.toArray) ∧ kDsk.K w' (Old w') d cs ∧ Below w.heap.size w w'
/-- A disk and an error. -/
def DskE (d : Dsk) (z : Int) (w : World) (e : Ending) (w' : World) : Prop := ∃ cs, e = .returned (.tuple #[.agg cs.toArray, .int .i64 z]) ∧ kDsk.K w' (Old w') d cs ∧ Below w.heap.size w w'
theorem DskRF.old {F : Foot} {d : Dsk} {w w' : World} {e : Ending} (h : DskRF F d w e w') : DskR d w e w' := by obtain ⟨cs, h1, h2, h3⟩ := h; exact ⟨cs, h1, Kd.any h2, h3⟩
theorem DskF.old {F : Foot} {d : Dsk} {z : Int} {w w' : World} {e : Ending} (h : DskF F d z w e w') : DskE d z w e w' := by obtain ⟨cs, h1, h2, h3⟩ := h; exact ⟨cs, h1, Kd.any h2, h3⟩
theorem results_cell_tmp {P : Program} {fn : Func} {p q : Tmp} {ty : TypeId} (h : fn.results = #[.cell p ty, .tmp q]) (tmps : Array Value) (w : World) (g : Nat) (t : TypeId) (cs : Array Value) (fr : Nat × Nat) (d : TypeDesc)
    (hp : tmps.getD p undef = .pointer (some ⟨g, 0, none⟩)) (hg : w.heap[g]? = some (.cells cs t fr))
    (hu : P.underlying ty = some d) (hd : (match d with | .struct _ | .array _ _ => true | _ => false) = true) (hi : (P.info? ty).map (·.size) = some cs.size) :
    (results fn tmps).run P w = .ok (.tuple #[.agg cs, tmps.getD q undef]) w := by
  have hp' : tmps[p]?.getD undef = .pointer (some ⟨g, 0, none⟩) := by simpa using hp
  simp [results, h, hp', asAddr, run_loadVar_row w g t ty cs fr d hg hu hd hi]
theorem results_cell {P : Program} {fn : Func} {p : Tmp} {ty : TypeId} (h : fn.results = #[.cell p ty]) (tmps : Array Value) (w : World) (g : Nat) (t : TypeId) (cs : Array Value) (fr : Nat × Nat) (d : TypeDesc)
    (hp : tmps.getD p undef = .pointer (some ⟨g, 0, none⟩)) (hg : w.heap[g]? = some (.cells cs t fr))
    (hu : P.underlying ty = some d) (hd : (match d with | .struct _ | .array _ _ => true | _ => false) = true) (hi : (P.info? ty).map (·.size) = some cs.size) :
    (results fn tmps).run P w = .ok (.agg cs) w := by
  have hp' : tmps[p]?.getD undef = .pointer (some ⟨g, 0, none⟩) := by simpa using hp
  simp [results, h, hp', asAddr, run_loadVar_row w g t ty cs fr d hg hu hd hi]
/-- A disk leaves: it is stored into the result's block. -/
theorem dsk_set4 {w2 : World} {b : Nat} {t : TypeId} {l0 : List Value} (HV : Blk w2 b t l0) (hl : l0.length = 4) (u0 u1 u2 u3 : Value) :
    Blk ((((w2.setCell ⟨b, 0, none⟩ u0).setCell ⟨b, 1, none⟩ u1).setCell ⟨b, 2, none⟩ u2).setCell ⟨b, 3, none⟩ u3) b t [u0, u1, u2, u3] := by
  match l0, hl with
  | [a, b', c, d], _ => exact (((HV.set 0 u0).set 1 u1).set 2 u2).set 3 u3
theorem below_set4 {w w2 : World} {b : Nat} (HB : Below w.heap.size w w2) (hb : w.heap.size ≤ b) (u0 u1 u2 u3 : Value) :
    Below w.heap.size w ((((w2.setCell ⟨b, 0, none⟩ u0).setCell ⟨b, 1, none⟩ u1).setCell ⟨b, 2, none⟩ u2).setCell ⟨b, 3, none⟩ u3) :=
  (((HB.setCell hb _).setCell hb _).setCell hb _).setCell hb _
/-- What leads to none of the result's block is as it was. -/
theorem kd_set4 {α : Type} {d : Kd α} {w2 : World} {b : Nat} {F : Foot} {x : α} {cs : List Value} (h : d.K w2 F x cs) (hF : ¬ F b) (u0 u1 u2 u3 : Value) :
    d.K ((((w2.setCell ⟨b, 0, none⟩ u0).setCell ⟨b, 1, none⟩ u1).setCell ⟨b, 2, none⟩ u2).setCell ⟨b, 3, none⟩ u3) F x cs :=
  d.move (fun k hk _ => by
    have hne : k ≠ b := fun e => hF (by subst e; exact hk)
    rw [Below.heap_setCell _ _ _ _ hne, Below.heap_setCell _ _ _ _ hne, Below.heap_setCell _ _ _ _ hne, Below.heap_setCell _ _ _ _ hne]) (by simp [World.setCell]) h
theorem heap_new (w : World) (o : Obj) : (w.alloc o).heap[w.heap.size]? = some o := by show (w.heap.push o)[w.heap.size]? = _; rw [Array.getElem?_push_size]
theorem info_dsk : (Try.prog.info? 25).map (·.size) = some 4 := by kernel_rfl

set_option maxRecDepth 100000 in
set_option maxHeartbeats 1000000 in
theorem restartF_calls {d : Dsk} {w : World} {F : Foot} {cs : List Value} (h : kDsk.K w F d cs) : Calls Try.prog 17 #[.agg cs.toArray] w (DskRF F (restartD d) w) := by
  obtain ⟨A, c, A', c', rfl, hs, _, _⟩ := kDsk_open (kd_now h)
  have HS := Lib.hid hs
  clear h hs
  have HB := Lib.hid ((dsk_box w d A A' c c').below (below_box (Below.refl _ _) (.cells #[.slice none 0 0, .slice none 0 0, .int .i64 0, .bool false] 25)))
  have HV := Lib.hid (Blk.new (w.alloc (.cells #[.slice A d.secs.length c, .slice A' d.pend.length c', .int .i64 d.left, .bool d.stop] 25)) 25 [.slice none 0 0, .slice none 0 0, .int .i64 0, .bool false])
  rw [World.size_alloc] at HV
  obtain ⟨⟨f1, f2, f3, f4⟩, _⟩ := HB.out.facts4
  obtain ⟨⟨g1, g2, g3, g4⟩, g5, g6, g7, g8⟩ := HV.out.facts4
  go_enter Try.func17, Try.ntmps17
  go_wp2
  refine bodyPost_ret (results_cell rfl _ _ (w.heap.size + 1) _ _ _ _ rfl (by have h := heap_new (w.alloc (.cells #[.slice A d.secs.length c, .slice A' d.pend.length c', .int .i64 d.left, .bool d.stop] 25)) (.cells #[.slice A d.secs.length c, .slice none 0 0, .int .i64 (-1), .bool false] 25); rwa [World.size_alloc] at h) Try.underlying25 rfl (by rw [info_dsk]; rfl)) rfl ?_
  exact ⟨[.slice A d.secs.length c, .slice none 0 0, .int .i64 (-1), .bool false], rfl, kDsk_mk (d := restartD d) ((HS.out.below (below_box (below_box (Below.refl _ _) _) _)).mono (fun k hk _ => .inl hk)) (SL.nil (Nat.zero_le _)) (show I64 (-1) by unfold I64; decide), below_box (below_box (Below.refl _ _) _) _⟩

theorem restart_calls {d : Dsk} {w : World} {cs : List Value} (h : kDsk.K w (Old w) d cs) : Calls Try.prog 17 #[.agg cs.toArray] w (DskR (restartD d) w) := (restartF_calls h).mono fun _ _ h => h.old

theorem dskE_leave {w w1 : World} {fn : Func} {p q : Tmp} {b : Nat} {z : Int} {d : Dsk} {t : TypeId} {cs0 : List Value} {F : Foot} {u0 u1 u2 u3 : Value} (hfn : fn.results = #[.cell p 25, .tmp q]) (HV : Blk w1 b t cs0) (hl : cs0.length = 4) (hK : kDsk.K w1 F d [u0, u1, u2, u3]) (hF : ¬ F b) (HB : Below w.heap.size w w1) (hb : w.heap.size ≤ b)
    {tmps : Array Value} (hp : tmps.getD p undef = .pointer (some ⟨b, 0, none⟩)) (hq : tmps.getD q undef = .int .i64 z) :
    bodyPost Try.prog fn (DskE d z w) Exit.ret { tmps := tmps, defers := [] } ((((w1.setCell ⟨b, 0, none⟩ u0).setCell ⟨b, 1, none⟩ u1).setCell ⟨b, 2, none⟩ u2).setCell ⟨b, 3, none⟩ u3) := by
  refine bodyPost_ret (results_cell_tmp hfn _ _ b _ _ _ _ hp (dsk_set4 HV hl u0 u1 u2 u3) Try.underlying25 rfl info_dsk) rfl ?_
  exact ⟨[u0, u1, u2, u3], by rw [hq], Kd.any (kd_set4 hK hF u0 u1 u2 u3), below_set4 HB hb u0 u1 u2 u3⟩
theorem dskF_leave {w w1 : World} {fn : Func} {p q : Tmp} {b : Nat} {z : Int} {d : Dsk} {t : TypeId} {cs0 : List Value} {F G : Foot} {u0 u1 u2 u3 : Value} (hsub : ∀ k, F k → Fut G w k) (hfn : fn.results = #[.cell p 25, .tmp q]) (HV : Blk w1 b t cs0) (hl : cs0.length = 4) (hK : kDsk.K w1 F d [u0, u1, u2, u3]) (hF : ¬ F b) (HB : Below w.heap.size w w1) (hb : w.heap.size ≤ b)
    {tmps : Array Value} (hp : tmps.getD p undef = .pointer (some ⟨b, 0, none⟩)) (hq : tmps.getD q undef = .int .i64 z) :
    bodyPost Try.prog fn (DskF G d z w) Exit.ret { tmps := tmps, defers := [] } ((((w1.setCell ⟨b, 0, none⟩ u0).setCell ⟨b, 1, none⟩ u1).setCell ⟨b, 2, none⟩ u2).setCell ⟨b, 3, none⟩ u3) := by
  refine bodyPost_ret (results_cell_tmp hfn _ _ b _ _ _ _ hp (dsk_set4 HV hl u0 u1 u2 u3) Try.underlying25 rfl info_dsk) rfl ?_
  exact ⟨[u0, u1, u2, u3], by rw [hq], kDsk.mono (fun k hk _ => hsub k hk) (kd_set4 hK hF u0 u1 u2 u3), below_set4 HB hb u0 u1 u2 u3⟩
theorem kZeroD (w : World) (F : Foot) : kDsk.K w F zeroD [.slice none 0 0, .slice none 0 0, .int .i64 0, .bool false] := kDsk_mk (d := zeroD) (SL.nil (Nat.zero_le _)) (SL.nil (Nat.zero_le _)) (show I64 0 by unfold I64; decide)
set_option maxRecDepth 100000 in
set_option maxHeartbeats 2000000 in
theorem stopF_calls {d : Dsk} {n : Int} {w : World} {F : Foot} {cs : List Value} (h : kDsk.K w F d cs) (hn : I64 n) : Calls Try.prog 25 #[.agg cs.toArray, .int .i64 n] w (DskF F (stopD d n) (stopE d n) w) := by
  have H := Lib.hid (Kd.any h)
  obtain ⟨A, c, A', c', rfl, hs, hp, _⟩ := kDsk_open (kd_now h)
  have HS := Lib.hid hs
  have HP := Lib.hid hp
  have HN := Lib.hid hn
  obtain ⟨n1, n2⟩ := hn
  clear h hs hp
  have HB := Lib.hid ((dsk_box w d A A' c c').below (below_box (Below.refl _ _) (.cells #[.slice none 0 0, .slice none 0 0, .int .i64 0, .bool false] 25)))
  have HV := Lib.hid (Blk.new (w.alloc (.cells #[.slice A d.secs.length c, .slice A' d.pend.length c', .int .i64 d.left, .bool d.stop] 25)) 25 [.slice none 0 0, .slice none 0 0, .int .i64 0, .bool false])
  rw [World.size_alloc] at HV
  have HBW : Below w.heap.size w ((w.alloc (.cells #[.slice A d.secs.length c, .slice A' d.pend.length c', .int .i64 d.left, .bool d.stop] 25)).alloc (.cells #[.slice none 0 0, .slice none 0 0, .int .i64 0, .bool false] 25)) := below_box (below_box (Below.refl _ _) _) _
  obtain ⟨⟨f1, f2, f3, f4⟩, _⟩ := HB.out.facts4
  go_enter Try.func25, Try.ntmps25
  cases hr : d.runs
  · have HR := Lib.hid hr
    have HE : Hid (stopE d n = 470 ∧ stopD d n = zeroD) := by
      have h1 : stopE d n = 470 := by unfold stopE; rw [hr]; rfl
      exact ⟨h1, by unfold stopD; rw [h1]; rfl⟩
    clear hr
    go_wp2_with fail
    refine (runs_as HR.out (Kd.old H.out HBW)).mono ?_
    rintro e w1 ⟨rfl, hb1⟩
    obtain ⟨⟨g1, g2, g3, g4⟩, g5, g6, g7, g8⟩ := (HV.out.below hb1).facts4
    go_wp2
    rw [HE.out.1, HE.out.2]
    exact dskF_leave (fun _ h => h.elim) rfl (HV.out.below hb1) rfl (kZeroD _ (fun _ => False)) (fun h => h) (below_then HBW hb1) (by omega) rfl rfl
  · have HR := Lib.hid hr
    have HE0 : Hid (stopE d n = if n < 0 ∨ 65536 < n then 1 else 0) := by show stopE d n = _; unfold stopE; rw [hr]; rfl
    clear hr
    by_cases hbad : n < 0 ∨ 65536 < n
    · have HE : Hid (stopE d n = 1 ∧ stopD d n = zeroD) := by
        have h1 : stopE d n = 1 := by rw [HE0.out, if_pos hbad]
        exact ⟨h1, by unfold stopD; rw [h1]; rfl⟩
      rcases hbad with hbad | hbad
      all_goals
        go_wp2_with fail
        refine (runs_as HR.out (Kd.old H.out HBW)).mono ?_
        rintro e w1 ⟨rfl, hb1⟩
        obtain ⟨⟨g1, g2, g3, g4⟩, g5, g6, g7, g8⟩ := (HV.out.below hb1).facts4
        go_wp2
        rw [HE.out.1, HE.out.2]
        exact dskF_leave (fun _ h => h.elim) rfl (HV.out.below hb1) rfl (kZeroD _ (fun _ => False)) (fun h => h) (below_then HBW hb1) (by omega) rfl rfl
    · have HE : Hid (stopE d n = 0 ∧ stopD d n = { d with left := n }) := by
        have h1 : stopE d n = 0 := by rw [HE0.out, if_neg hbad]
        exact ⟨h1, by unfold stopD; rw [h1]; rfl⟩
      have h1 : ¬ n < 0 := by omega
      have h2 : ¬ 65536 < n := by omega
      clear hbad
      go_wp2_with fail
      refine (runs_as HR.out (Kd.old H.out HBW)).mono ?_
      rintro e w1 ⟨rfl, hb1⟩
      have HBX := Lib.hid ((HB.out.below hb1).set 2 (.int .i64 n))
      have HVX := Lib.hid ((HV.out.below hb1).other (v := w.heap.size) (i := 2) (u := .int .i64 n) (by omega))
      obtain ⟨⟨e1, e2, e3, e4⟩, e5, e6, e7, e8⟩ := (HB.out.below hb1).facts4
      obtain ⟨⟨x1, x2, x3, x4⟩, _⟩ := HBX.out.facts4
      obtain ⟨⟨g1, g2, g3, g4⟩, g5, g6, g7, g8⟩ := HVX.out.facts4
      go_wp2
      rw [HE.out.1, HE.out.2]
      refine dskF_leave (F := Now F w) (fun _ h => .inl h) rfl HVX.out rfl ?_ (fun h => by have h' : w.heap.size + 1 < w.heap.size := h.2; omega) ((below_then HBW hb1).setCell (Nat.le_refl _) _) (by omega) rfl rfl
      have hf : ∀ k, Now F w k → k ≠ w.heap.size := fun k hk e => by subst e; exact Nat.lt_irrefl _ hk.2
      have hm : ∀ k, Now F w k → k < w.heap.size → (w1.setCell ⟨w.heap.size, 2, none⟩ (.int .i64 n)).heap[k]? = w.heap[k]? := fun k hk hl => (Below.heap_setCell _ _ _ _ (hf k hk)).trans ((below_then HBW hb1).block k hl)
      have hsz : w.heap.size ≤ (w1.setCell ⟨w.heap.size, 2, none⟩ (.int .i64 n)).heap.size := by have := (below_then HBW hb1).size; simpa [World.setCell] using this
      exact kDsk_mk (d := { d with left := n }) (HS.out.move hm hsz) (HP.out.move hm hsz) HN.out
theorem stop_calls {d : Dsk} {n : Int} {w : World} {cs : List Value} (h : kDsk.K w (Old w) d cs) (hn : I64 n) : Calls Try.prog 25 #[.agg cs.toArray, .int .i64 n] w (DskE (stopD d n) (stopE d n) w) := (stopF_calls h hn).mono fun _ _ h => h.old
end Go.Proofs.Ytmcdimcjmafaoaa.B
