/- disk.Read: the sector as it was written last. -/
import Derived.Test.YtmcdimcjmafaoaaDiskN
import Derived.Test.YtmcdimcjmafaoaaBackward
namespace Go.Proofs.Ytmcdimcjmafaoaa.B
set_option linter.unusedVariables false
set_option linter.unusedSimpArgs false
open Go.RowKit Go.Shelf
attribute [local go_sem] Oper.semAt_some

/-- Bytes out of some blocks, and an error. -/
def ReadF (F : Foot) (xs : List UInt8) (z : Int) (w : World) (e : Ending) (w' : World) : Prop := ∃ A c, e = .returned (.tuple #[.slice A xs.length c, .int .i64 z]) ∧ SL kU8 w' F A c xs ∧ Below w.heap.size w w'
/-- What memory holds of Read's own variables. -/
structure RB (w w1 : World) (A : Option Addr) (n c : Nat) (A' : Option Addr) (m c' : Nat) (left : Int) (stop : Bool) (p : Int) (v : Value) (z : Int) : Prop where
  d : Blk w1 w.heap.size 25 [.slice A n c, .slice A' m c', .int .i64 left, .bool stop]
  p : Blk w1 (w.heap.size + 1) 3 [.int .i64 p]
  b : Blk w1 (w.heap.size + 2) 35 [v]
  e : Blk w1 (w.heap.size + 3) 28 [.int .i64 z]
  bel : Below w.heap.size w w1
section
variable {w w1 w2 : World} {A A' : Option Addr} {n c m c' : Nat} {left p z : Int} {stop : Bool} {v : Value}
theorem RB.new (w : World) (A : Option Addr) (n c : Nat) (A' : Option Addr) (m c' : Nat) (left : Int) (stop : Bool) (p : Int) : RB w (((((w.alloc (.cells #[.slice A n c, .slice A' m c', .int .i64 left, .bool stop] 25)).alloc (.cells #[.int .i64 p] 3)).alloc (.cells #[.slice none 0 0] 35)).alloc (.cells #[.int .i64 0] 28))) A n c A' m c' left stop p (.slice none 0 0) 0 := by
  have h1 := Blk.new (w.alloc (.cells #[.slice A n c, .slice A' m c', .int .i64 left, .bool stop] 25)) 3 [.int .i64 p]
  have h2 := Blk.new ((w.alloc (.cells #[.slice A n c, .slice A' m c', .int .i64 left, .bool stop] 25)).alloc (.cells #[.int .i64 p] 3)) 35 [.slice none 0 0]
  have h3 := Blk.new (((w.alloc (.cells #[.slice A n c, .slice A' m c', .int .i64 left, .bool stop] 25)).alloc (.cells #[.int .i64 p] 3)).alloc (.cells #[.slice none 0 0] 35)) 28 [.int .i64 0]
  simp only [World.size_alloc] at h1 h2 h3
  exact ⟨(Blk.new w 25 [.slice A n c, .slice A' m c', .int .i64 left, .bool stop]).below (below_box (below_box (below_box (Below.refl _ _) _) _) _), h1.below (below_box (below_box (Below.refl _ _) _) _), h2.below (below_box (Below.refl _ _) _), h3, below_box (below_box (below_box (below_box (Below.refl _ _) _) _) _) _⟩
theorem RB.below (h : RB w w1 A n c A' m c' left stop p v z) (hb : Below w1.heap.size w1 w2) : RB w w2 A n c A' m c' left stop p v z := ⟨h.d.below hb, h.p.below hb, h.b.below hb, h.e.below hb, below_then h.bel hb⟩
theorem RB.size (h : RB w w1 A n c A' m c' left stop p v z) : w.heap.size + 4 ≤ w1.heap.size := by have := h.e.lt; omega
theorem RB.facts (h : RB w w1 A n c A' m c' left stop p v z) : ((w1.cell? ⟨w.heap.size, 0, none⟩ = some (.slice A n c) ∧ w1.cell? ⟨w.heap.size, 1, none⟩ = some (.slice A' m c') ∧ w1.cell? ⟨w.heap.size, 2, none⟩ = some (.int .i64 left) ∧ w1.cell? ⟨w.heap.size, 3, none⟩ = some (.bool stop))) ∧ w1.cell? ⟨w.heap.size + 1, 0, none⟩ = some (.int .i64 p) ∧ w1.cell? ⟨w.heap.size + 2, 0, none⟩ = some v ∧ w1.cell? ⟨w.heap.size + 3, 0, none⟩ = some (.int .i64 z) ∧ w1.frozen? ⟨w.heap.size + 2, 0, none⟩ = false ∧ w1.frozen? ⟨w.heap.size + 3, 0, none⟩ = false :=
  ⟨h.d.facts4.1, h.p.cell rfl, h.b.cell rfl, h.e.cell rfl, h.b.frozen 0, h.e.frozen 0⟩
/-- The two results are stored. -/
theorem RB.set (h : RB w w1 A n c A' m c' left stop p v z) (v' : Value) (z' : Int) : RB w ((w1.setCell ⟨w.heap.size + 2, 0, none⟩ v').setCell ⟨w.heap.size + 3, 0, none⟩ (.int .i64 z')) A n c A' m c' left stop p v' z' :=
  ⟨(h.d.other (by omega)).other (by omega), (h.p.other (by omega)).other (by omega), (h.b.set 0 v').other (by omega), (h.e.other (by omega)).set 0 (.int .i64 z'), (h.bel.setCell (by show w.heap.size ≤ w.heap.size + 2; omega) _).setCell (by show w.heap.size ≤ w.heap.size + 3; omega) _⟩
theorem RB.put (h : RB w w1 A n c A' m c' left stop p v z) {D : Nat} (hD : w.heap.size + 4 ≤ D) (hK : w1.heap[D]? = some (.deferred (some []))) : RB w (w1.putObj D (.deferred none)) A n c A' m c' left stop p v z :=
  have hg := grownBy_putObj' w1 D (.deferred none)
  ⟨h.d.grown hg (fun e => by injection e with e; omega), h.p.grown hg (fun e => by injection e with e; omega), h.b.grown hg (fun e => by injection e with e; omega), h.e.grown hg (fun e => by injection e with e; omega), h.bel.trans (belowK_b (w := w) (Nat.le_refl _) _ D _ _ (by omega) hK rfl rfl)⟩
theorem RB.kept (h : RB w w1 A n c A' m c' left stop p v z) {row : Option Nat} (hg : w1.grownBy w2 row) (hr : ∀ r, row = some r → w.heap.size + 4 ≤ r) : RB w w2 A n c A' m c' left stop p v z :=
  ⟨h.d.grown hg (fun e => by have := hr _ e; omega), h.p.grown hg (fun e => by have := hr _ e; omega), h.b.grown hg (fun e => by have := hr _ e; omega), h.e.grown hg (fun e => by have := hr _ e; omega), h.bel.grown hg h.bel.size (fun k e => by have := hr _ e; omega)⟩
/-- Bytes and an error, out of two cells. -/
theorem results_sl_int {P : Program} {fn : Func} {p q : Tmp} {ty ty' te : TypeId} (h : fn.results = #[.cell p ty, .cell q ty']) (tmps : Array Value) (w : World) (g g' : Nat) (u u' : Value) {k : IntKind}
    (hp : tmps.getD p undef = .pointer (some ⟨g, 0, none⟩)) (hc : w.cell? ⟨g, 0, none⟩ = some u) (hu : P.underlying ty = some (.slice te))
    (hq : tmps.getD q undef = .pointer (some ⟨g', 0, none⟩)) (hc' : w.cell? ⟨g', 0, none⟩ = some u') (hu' : P.underlying ty' = some (.int k)) :
    (results fn tmps).run P w = .ok (.tuple #[u, u']) w := by
  have hp' : tmps[p]?.getD undef = .pointer (some ⟨g, 0, none⟩) := by simpa using hp
  have hq' : tmps[q]?.getD undef = .pointer (some ⟨g', 0, none⟩) := by simpa using hq
  have hl : (loadVar ty ⟨g, 0, none⟩).run P w = .ok u w := by simp [loadVar, isAgg, run_underlying hu, hc]
  have hl' : (loadVar ty' ⟨g', 0, none⟩).run P w = .ok u' w := by simp [loadVar, isAgg, run_underlying hu', hc']
  simp [results, h, hp', hq', asAddr, hl, hl']
theorem RB.leave {fn : Func} {F : Foot} {xs : List UInt8} {a : Option Addr} {k : Nat} (h : RB w w1 A n c A' m c' left stop p (.slice a xs.length k) z) (hsl : SL kU8 w1 F a k xs) (hfn : fn.results = #[.cell 4 35, .cell 5 28]) {tmps : Array Value} (h4 : tmps.getD 4 undef = .pointer (some ⟨w.heap.size + 2, 0, none⟩)) (h5 : tmps.getD 5 undef = .pointer (some ⟨w.heap.size + 3, 0, none⟩)) :
    bodyPost Try.prog fn (ReadF F xs z w) Exit.ret { tmps := tmps, defers := [] } w1 :=
  bodyPost_ret (results_sl_int hfn _ _ _ _ _ _ h4 (h.b.cell rfl) Try.underlying35 h5 (h.e.cell rfl) Try.underlying28) rfl ⟨a, k, rfl, hsl, h.bel⟩
end
set_option maxRecDepth 100000 in
set_option maxHeartbeats 1000000 in
/-- Where it may not be read. -/
theorem read_no_calls {d : Dsk} {p : Int} {w : World} {F : Foot} {cs : List Value} (h : kDsk.K w F d cs) (hp : I64 p) (hno : (d.runs && d.has p) = false) : Calls Try.prog 21 #[.agg cs.toArray, .int .i64 p] w (ReadF F (readD d p) (readE d p) w) := by
  have H := Lib.hid (Kd.any h)
  have HP := Lib.hid hp
  obtain ⟨A, c, A', c', rfl, hs, hpe, hl⟩ := kDsk_open h
  obtain ⟨p1, p2⟩ := hp
  have HE := Lib.hid (read_no hno)
  have HR0 := Lib.hid (RB.new w A d.secs.length c A' d.pend.length c' d.left d.stop p)
  have HH := Lib.hid hno
  clear h hs hpe hl hno
  obtain ⟨f1, f2, f3, f4, f5, f6⟩ := HR0.out.facts
  obtain ⟨r, hr⟩ : ∃ r, d.runs = r := ⟨_, rfl⟩
  have HR := Lib.hid hr
  clear hr
  cases r
  · go_enter Try.func21, Try.ntmps21
    go_wp2_with fail
    refine (runs_as HR.out (Kd.old H.out HR0.out.bel)).mono ?_
    rintro e w1 ⟨rfl, hb1⟩
    have HR1 := Lib.hid (HR0.out.below hb1)
    clear f1 f2 f3 f4 f5 f6
    obtain ⟨f1, f2, f3, f4, f5, f6⟩ := HR1.out.facts
    go_wp2
    rw [HE.out.1, HE.out.2]
    exact RB.leave (xs := []) (HR1.out.set (.slice none 0 0) 470) (SL.nil (Nat.zero_le _)) rfl rfl rfl
  · obtain ⟨q, hq⟩ : ∃ q, d.has p = q := ⟨_, rfl⟩
    have HQ := Lib.hid hq
    have hqf : q = false := by have := HH.out; rw [HR.out, hq] at this; exact this
    subst hqf
    clear hq
    go_enter Try.func21, Try.ntmps21
    go_wp2_with fail
    refine (runs_as HR.out (Kd.old H.out HR0.out.bel)).mono ?_
    rintro e w1 ⟨rfl, hb1⟩
    have HR1 := Lib.hid (HR0.out.below hb1)
    clear f1 f2 f3 f4 f5 f6
    obtain ⟨f1, f2, f3, f4, f5, f6⟩ := HR1.out.facts
    go_wp2_with fail
    refine (has_as HQ.out (Kd.old H.out HR1.out.bel) HP.out).mono ?_
    rintro e w2 ⟨rfl, hb2⟩
    have HR2 := Lib.hid (HR1.out.below hb2)
    clear f1 f2 f3 f4 f5 f6
    obtain ⟨f1, f2, f3, f4, f5, f6⟩ := HR2.out.facts
    go_wp2
    rw [HE.out.1, HE.out.2]
    exact RB.leave (xs := []) (HR2.out.set (.slice none 0 0) 470) (SL.nil (Nat.zero_le _)) rfl rfl rfl
theorem lastAt_down {l : List Wr} {p : Int} {b : List UInt8} {k : Nat} (hk : k < l.length) (hno : ∀ i, i < k → ∀ (hi : l.length - 1 - i < l.length), l[l.length - 1 - i].pos ≠ p) (he : l[l.length - 1 - k].pos = p) : lastAt p l b = l[l.length - 1 - k].data := by
  have key : ∀ j, j ≤ k → lastAt p (l.take (l.length - j)) b = lastAt p l b := by
    intro j
    induction j with
    | zero => intro _; rw [Nat.sub_zero, List.take_length]
    | succ j ih =>
      intro hj
      rw [← ih (by omega)]
      have h1 : l.length - j = (l.length - (j + 1)) + 1 := by omega
      rw [h1, lastAt_take (by omega)]
      have := hno j (by omega) (by omega)
      rw [if_neg]
      simpa [show l.length - (j + 1) = l.length - 1 - j by omega] using this
  rw [← key k (Nat.le_refl _), show l.length - k = (l.length - 1 - k) + 1 by omega, lastAt_take (by omega), if_pos he]
theorem lastAt_none {l : List Wr} {p : Int} {b : List UInt8} (hno : ∀ x ∈ l, x.pos ≠ p) : lastAt p l b = b := by
  unfold lastAt
  induction l generalizing b with
  | nil => rfl
  | cons x r ih => rw [List.foldl_cons, if_neg (hno x (List.mem_cons_self ..))]; exact ih (fun y hy => hno y (List.mem_cons_of_mem _ hy))
set_option maxRecDepth 100000 in
set_option maxHeartbeats 2000000 in
/-- disk.Read. -/
theorem read_calls {d : Dsk} {p : Int} {w : World} {F : Foot} {cs : List Value} (h : kDsk.K w F d cs) (hp : I64 p) : Calls Try.prog 21 #[.agg cs.toArray, .int .i64 p] w (ReadF F (readD d p) (readE d p) w) := by
  cases hyes : d.runs && d.has p
  case false => exact read_no_calls h hp hyes
  have H := Lib.hid (Kd.any h)
  have HP := Lib.hid hp
  obtain ⟨A, c, A', c', rfl, hs, hpe, hl⟩ := kDsk_open (kd_now h)
  obtain ⟨p1, p2⟩ := hp
  obtain ⟨hr, hh⟩ : d.runs = true ∧ d.has p = true := by simpa using hyes
  obtain ⟨i1, i2⟩ : 0 ≤ p ∧ p < (d.secs.length : Int) := by unfold Dsk.has at hh; simpa using hh
  obtain ⟨j, rfl⟩ : ∃ j : Nat, p = (j : Int) := ⟨p.toNat, by omega⟩
  have hjl : j < d.secs.length := by omega
  have HE := Lib.hid (read_at rfl hjl hyes)
  have hsm := Nat.le_trans hs.le hs.max
  have hpm := Nat.le_trans hpe.le hpe.max
  unfold maxLen at hsm hpm
  have hpm2 : d.pend.length ≤ 4611686018427387904 := by have := (valid_facts (runs_facts hr).1).2.2.1; omega
  have HS := Lib.hid hs
  have HPE := Lib.hid hpe
  have HR := Lib.hid hr
  have HH := Lib.hid hh
  have HR0 := Lib.hid (RB.new w A d.secs.length c A' d.pend.length c' d.left d.stop j)
  clear h hs hpe hl hyes hr hh
  obtain ⟨f1, f2, f3, f4, f5, f6⟩ := HR0.out.facts
  refine (callsIn_wide (n := 3)).1 ?_
  refine callsIn_of_wp_marks Try.func21 rfl trivial ?_ rfl
  simp only [Try.ntmps21, List.size_toArray, List.length_cons, List.length_nil, Nat.reduceAdd, Nat.reduceSub, Array.replicate_succ, Array.replicate_zero, List.push_toArray, List.append_toArray, List.nil_append, List.cons_append]
  gi_wp2_with fail
  refine ⟨trivial, (callsIn_wide.2 (runs_as HR.out (Kd.old H.out HR0.out.bel))).mono ?_⟩
  rintro e w1 ⟨rfl, hb1⟩
  have HR1 := Lib.hid (HR0.out.below hb1)
  clear f1 f2 f3 f4 f5 f6
  obtain ⟨f1, f2, f3, f4, f5, f6⟩ := HR1.out.facts
  gi_wp2_with fail
  refine ⟨trivial, (callsIn_wide.2 (has_as HH.out (Kd.old H.out HR1.out.bel) HP.out)).mono ?_⟩
  rintro e w2 ⟨rfl, hb2⟩
  have HR2 := Lib.hid (HR1.out.below hb2)
  clear f1 f2 f3 f4 f5 f6
  obtain ⟨f1, f2, f3, f4, f5, f6⟩ := HR2.out.facts
  gi_wp2_with fail
  refine ⟨trivial, (callsIn_wide.2 backward_calls).mono ?_⟩
  rintro e w3 ⟨rfl, rfl⟩
  have HR3 := Lib.hid (HR2.out.below (below_box (Below.refl _ _) (.cells #[.slice A' d.pend.length c'] 23)))
  have HBx := Lib.hid (Blk.new w2 23 [.slice A' d.pend.length c'])
  have hsz2 := HR2.out.size
  clear f1 f2 f3 f4 f5 f6 hb1 hb2 HR1 HR0
  gi_wp2_with fail
  obtain ⟨w3, hw3⟩ : ∃ w3, w2.alloc (.cells #[.slice A' d.pend.length c'] 23) = w3 := ⟨_, rfl⟩
  have hsz3 : w3.heap.size = w2.heap.size + 1 := by rw [← hw3, World.size_alloc]
  have hBx := HBx.out
  rw [show (List.toArray [Value.slice A' d.pend.length c']) = #[.slice A' d.pend.length c'] from rfl, hw3] at hBx
  rw [hw3] at HR3 ⊢
  have hc3 := Blk.cell hBx (i := 0) rfl
  obtain ⟨V, C, hVC⟩ := wr_all HPE.out
  obtain ⟨P, hP⟩ : ∃ P : Nat → Int, ∀ i (hi : i < d.pend.length), P i = d.pend[i].pos := ⟨fun i => (d.pend[i]?.getD noWr).pos, fun i hi => by simp [hi]⟩
  obtain ⟨L, hL⟩ : ∃ L : Nat → Nat, ∀ i (hi : i < d.pend.length), L i = d.pend[i].data.length := ⟨fun i => (d.pend[i]?.getD noWr).data.length, fun i hi => by simp [hi]⟩
  have HPP := Lib.hid hP
  have HLL := Lib.hid hL
  have HVC := Lib.hid hVC
  have HX3 := Lib.hid hBx
  have HW3 := Lib.hid hw3
  have hI3 : ∀ i, i < d.pend.length → ∃ ad, A' = some ad ∧ ad.block < w3.heap.size ∧ w3.cell? (ad.add (i * 2)) = some (.int .i64 (P i)) ∧ w3.cell? ⟨(ad.add (i * 2)).block, (ad.add (i * 2)).off + 1, none⟩ = some (.slice (V i) (L i) (C i)) := fun i hi => by
    obtain ⟨⟨ad, e, hlt, c0, c1⟩, _⟩ := HVC.out i hi
    have hb := HR3.out.bel
    exact ⟨ad, e, Nat.lt_of_lt_of_le hlt hb.size, by rw [HPP.out i hi]; exact keepcell hb c0, by rw [HLL.out i hi]; exact keepcell hb c1⟩
  have hstops := backward_stops Fence.wide 2 trivial rfl (by omega) w2.heap.size w3.heap.size c' A' d.pend.length P L V C hpm2 w3 (by omega) (Nat.le_refl _) hc3 hI3
  clear hw3 hBx hc3 hP hL hVC hI3 HBx
  refine wpIn_rangeFunc_ownH (F := Fence.wide) (n := 3) rfl (by omega) (gf := 45) (lb := #[.pointer (some ⟨w2.heap.size, 0, none⟩)]) rfl trivial (enters_of Try.func45 (by kernel_rfl) rfl)
    hstops belowK_t (belowK_b (Nat.le_refl _)) (Below.refl _ _) (fun _ => rfl)
    (fun pre W => (∀ i ∈ pre, P i ≠ (j : Int)) ∧ Below w3.heap.size w3 W)
    (fun cd pre W => cd = .ret ∧ ∃ ini last, pre = ini ++ [last] ∧ (∀ i ∈ ini, P i ≠ (j : Int)) ∧ P last = (j : Int) ∧ RB w W A d.secs.length c A' d.pend.length c' d.left d.stop j (.slice (V last) (L last) (C last)) 0)
    (fun s X Y row hs hg hr => ⟨hs.1, ownFrom_below (β := Unit) (Nat.le_refl _) (Nat.le_refl _) () X Y row hs.2 hg hr⟩)
    (fun cd s X Y row hs hg hr => by obtain ⟨e, ini, last, e1, e2, e3, h⟩ := hs; exact ⟨e, ini, last, e1, e2, e3, h.kept hg (fun r er => by have := (hr r er).1; omega)⟩)
    ⟨by simp, Below.refl _ _⟩
    (fun x a' W => ∃ Bx, Blk W Bx 54 [.int .i64 (P x), .slice (V x) (L x) (C x)] ∧ a' = { tmps := #[.agg #[.slice A d.secs.length c, .slice A' d.pend.length c', .int .i64 d.left, .bool d.stop], .int .i64 j, .pointer (some ⟨w.heap.size, 0, none⟩), .pointer (some ⟨w.heap.size + 1, 0, none⟩), .pointer (some ⟨w.heap.size + 1 + 1, 0, none⟩), .pointer (some ⟨w.heap.size + 1 + 1 + 1, 0, none⟩), undef, .pointer (some ⟨Bx, 0, none⟩), .agg #[.slice A d.secs.length c, .slice A' d.pend.length c', .int .i64 d.left, .bool d.stop], .bool true, .bool false, .bool false, .agg #[.slice A d.secs.length c, .slice A' d.pend.length c', .int .i64 d.left, .bool d.stop], .int .i64 j, .bool true, .bool false, .bool false, .pointer (some ⟨w.heap.size, 1, none⟩), .slice A' d.pend.length c', .func (.func 45) #[] #[.pointer (some ⟨w2.heap.size, 0, none⟩)], .int .i64 (x : Int), .agg #[.int .i64 (P x), .slice (V x) (L x) (C x)], undef, undef, undef, undef, undef, undef, undef, undef, undef, undef, undef], defers := [] })
    (fun x a' _ X Y row hs hg hr => by obtain ⟨Bx, h1, h2⟩ := hs; exact ⟨Bx, h1.grown hg (fun e => by obtain ⟨_, o, ho, hcl⟩ := hr Bx e; rw [show X.heap[Bx]? = _ from h1] at ho; cases ho; cases hcl), h2⟩)
    ?assign ?body ?done ?stop
  case assign =>
    rintro l pre x W K ⟨hno, hB⟩ hK
    have HK := Lib.hid hK
    clear hK
    unfold bwEnc
    gi_wp2
    exact HK.out _ _ ((KeepsOthers.alloc _ _).from _) ((Below.refl _ W).alloc hB.size _) ⟨hno, hB.alloc hB.size _⟩ ⟨W.heap.size, Blk.new W 54 [.int .i64 (P x), .slice (V x) (L x) (C x)], rfl⟩
  case body =>
    rintro l pre x a' W hl hr ⟨hno, hB⟩ ⟨Bx, hX, rfl⟩ hlt
    have HX := Lib.hid hX
    have HNO := Lib.hid hno
    have HBW := Lib.hid hB
    have HRW := Lib.hid (HR3.out.below hB)
    obtain ⟨⟨x0, x1⟩, _⟩ := HX.out.facts2
    obtain ⟨f1, f2, f3, f4, f5, f6⟩ := HRW.out.facts
    clear hX hno hB hr
    by_cases hx : P x = (j : Int)
    · have hxb : (P x == (j : Int)) = true := beq_iff_eq.2 hx
      have HXE := Lib.hid hx
      clear hx
      gi_wp2
      exact ⟨((KeepsOthers.setCell _ _ _).trans (KeepsOthers.setCell _ _ _)).from _, rfl, pre, x, rfl, HNO.out, HXE.out, HRW.out.set _ _⟩
    · have hxb : (P x == (j : Int)) = false := beq_eq_false_iff_ne.2 hx
      have HXE := Lib.hid hx
      clear hx
      gi_wp2
      exact ⟨KeepsFrom.refl _ _, Below.refl _ _, fun i hi => (List.mem_append.1 hi).elim (HNO.out i) (fun e => by rw [List.mem_singleton.1 e]; exact HXE.out), HBW.out⟩
  case done =>
    rintro D ys W hD rfl ⟨hno, hB⟩ hK
    have HRW := Lib.hid (HR3.out.below hB)
    have HFIN : Hid (lastAt (j : Int) d.pend d.secs[j] = d.secs[j]) := lastAt_none (fun x hx => by
      obtain ⟨i, hi, rfl⟩ := List.getElem_of_mem hx
      rw [← HPP.out i hi]
      refine hno i ?_
      simp only [downto, List.mem_map, List.mem_range]
      exact ⟨d.pend.length - 1 - i, by omega, by omega⟩)
    obtain ⟨ad, A1, c1, rfl, q0, hsl⟩ := SL.sl_at (HS.out.below HRW.out.bel) hjl
    have HSL := Lib.hid hsl
    have HKD := Lib.hid hK
    obtain ⟨f1, f2, f3, f4, f5, f6⟩ := HRW.out.facts
    clear hsl hK hno hB
    gi_wp2
    have hRF := HRW.out.set (.slice A1 d.secs[j].length c1) 0
    have hKD := (KeepsOthers.setCell (W.setCell ⟨w.heap.size + 2, 0, none⟩ (.slice A1 d.secs[j].length c1)) ⟨w.heap.size + 3, 0, none⟩ (.int .i64 0)).same D _ ((KeepsOthers.setCell W ⟨w.heap.size + 2, 0, none⟩ (.slice A1 d.secs[j].length c1)).same D _ HKD.out rfl) rfl
    have hRP := hRF.put (by omega) hKD
    refine ⟨by simp, .inl ⟨_, _, rfl, run_takeDeferred hKD, ?_⟩⟩
    refine ⟨_, results_sl_int rfl _ _ _ _ _ _ rfl (hRP.b.cell rfl) Try.underlying35 rfl (hRP.e.cell rfl) Try.underlying28, ?_⟩
    rw [HE.out.1, HE.out.2, HFIN.out]
    exact ⟨_, _, rfl, (HSL.out.move (fun k hk _ => (hRP.bel.block k hk.2).trans (HRW.out.bel.block k hk.2).symm) (by simp [World.setCell])).mono (fun k hk _ => hk.1), hRP.bel⟩
  case stop =>
    rintro D cd pre W hD ⟨k, hk, rfl⟩ ⟨rfl, ini, last, e1, e2, e3, hRW⟩ hK
    have hpos : k = (k - 1) + 1 := by
      cases k with
      | zero => simp [downto] at e1
      | succ k => omega
    rw [hpos, downto_succ] at e1
    obtain ⟨rfl, e5⟩ := List.append_inj' e1 rfl
    obtain rfl : d.pend.length - 1 - (k - 1) = last := by simpa using e5
    have hkl : d.pend.length - 1 - (k - 1) < d.pend.length := by omega
    have HFIN : Hid (lastAt (j : Int) d.pend d.secs[j] = d.pend[d.pend.length - 1 - (k - 1)].data) := lastAt_down (by omega) (fun i hi hi' => by
      rw [← HPP.out _ hi']
      refine e2 _ ?_
      simp only [downto, List.mem_map, List.mem_range]
      exact ⟨i, hi, rfl⟩) (by rw [← HPP.out _ hkl]; exact e3)
    have hLk := HLL.out _ hkl
    have hSLk := (HVC.out _ hkl).2
    have hRP := hRW.put (by omega) hK
    gi_wp2
    refine ⟨by simp, .inl ⟨_, _, rfl, run_takeDeferred hK, ?_⟩⟩
    refine ⟨_, results_sl_int rfl _ _ _ _ _ _ rfl (hRP.b.cell rfl) Try.underlying35 rfl (hRP.e.cell rfl) Try.underlying28, ?_⟩
    rw [HE.out.1, HE.out.2, HFIN.out, hLk]
    exact ⟨_, _, rfl, (hSLk.below hRP.bel).mono (fun k hk _ => hk.1), hRP.bel⟩
end Go.Proofs.Ytmcdimcjmafaoaa.B
