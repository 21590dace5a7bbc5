import Derived.Test.YtpmokmhakdkpdaaRValue
import Derived.Test.YtpmokmhakdkpdaaCatch
namespace Go.Proofs.Ytpmokmhakdkpdaa.B
open Go.RowKit

def decodeV (xs : List UInt8) : Val := (decodeM xs).getD ⟨0, 0, empty, []⟩
def decodeE (xs : List UInt8) : Int := if (decodeM xs).isSome then 0 else 10
/-- codec.Decode hands back a value in new memory, and an error. -/
def DecodeR (w : World) (xs : List UInt8) (e : Ending) (w' : World) : Prop :=
  ∃ cs F', e = .returned (.tuple #[.agg cs.toArray, .int .i64 (decodeE xs)]) ∧ kVal.K w' F' (decodeV xs) cs ∧ (∀ k, F' k → w.heap.size ≤ k ∧ k < w'.heap.size) ∧ Below w.heap.size w w'
theorem results_cells2 {P : Program} {fn : Func} {p q : Tmp} {ty ty' : TypeId} (h : fn.results = #[.cell p ty, .cell q ty']) (tmps : Array Value) (w : World) (g g' : Nat) (t t' : TypeId) (cs : Array Value) (u : Value) (fr fr' : Nat × Nat) (d : TypeDesc) (k : IntKind)
    (hp : tmps.getD p undef = .pointer (some ⟨g, 0, none⟩)) (hg : w.heap[g]? = some (.cells cs t fr))
    (hu : P.underlying ty = some d) (hd : (match d with | .struct _ | .array _ _ => true | _ => false) = true) (hi : (P.info? ty).map (·.size) = some cs.size)
    (hq : tmps.getD q undef = .pointer (some ⟨g', 0, none⟩)) (hg' : w.heap[g']? = some (.cells #[u] t' fr')) (hu' : P.underlying ty' = some (.int k)) :
    (results fn tmps).run P w = .ok (.tuple #[.agg cs, u]) w := by
  have hp' : tmps[p]?.getD undef = .pointer (some ⟨g, 0, none⟩) := by simpa using hp
  have hq' : tmps[q]?.getD undef = .pointer (some ⟨g', 0, none⟩) := by simpa using hq
  have hl : (loadVar ty' ⟨g', 0, none⟩).run P w = .ok u w := by
    have hc : w.cell? ⟨g', 0, none⟩ = some u := by simp [World.cell?, hg']
    simp [loadVar, isAgg, run_underlying hu', hc]
  simp [results, h, hp', hq', asAddr, run_loadVar_row w g t ty cs fr d hg hu hd hi, hl]

theorem heap_new (w : World) (o : Obj) : (w.alloc o).heap[w.heap.size]? = some o := by show (w.heap.push o)[w.heap.size]? = _; rw [Array.getElem?_push_size]
/-- What is known of the call's own variables ahead of the deferred call. -/
structure DW (w w1 : World) (k n x : Int) (s : ByteArray) (l : Value) : Prop where
  vc : VC w1 w.heap.size k n s l
  ec : EC w1 (w.heap.size + 1) x
  below : Below w.heap.size w w1
theorem DW.set4 {w w1 : World} {k n x k' n' : Int} {s s' : ByteArray} {l l' : Value} (h : DW w w1 k n x s l) :
    DW w ((((w1.setCell ⟨w.heap.size, 0, none⟩ (.int .i64 k')).setCell ⟨w.heap.size, 1, none⟩ (.int .i64 n')).setCell ⟨w.heap.size, 2, none⟩ (.string s')).setCell ⟨w.heap.size, 3, none⟩ l') k' n' x s' l' :=
  ⟨(((h.vc.set0).set1).set2).set3, (((h.ec.other (by omega)).other (by omega)).other (by omega)).other (by omega), (((h.below.setCell (Nat.le_refl _) _).setCell (Nat.le_refl _) _).setCell (Nat.le_refl _) _).setCell (Nat.le_refl _) _⟩
theorem DW.sete {w w1 : World} {k n x y : Int} {s : ByteArray} {l : Value} (h : DW w w1 k n x s l) : DW w (w1.setCell ⟨w.heap.size + 1, 0, none⟩ (.int .i64 y)) k n y s l :=
  ⟨h.vc.other (by omega), h.ec.set, h.below.setCell (Nat.le_succ _) _⟩
theorem kd_set {w : World} {b o : Nat} {u : Value} {F : Foot} {x : Val} {cs : List Value} (h : kVal.K w F x cs) (hF : ∀ k, F k → k ≠ b) : kVal.K (w.setCell ⟨b, o, none⟩ u) F x cs :=
  kVal.move (fun k hk _ => Below.heap_setCell _ _ _ _ (hF k hk)) (by simp [World.setCell]) h
theorem decode_bad {w w1 : World} {xs : List UInt8} {k n x : Int} {s : ByteArray} {l : Value} (h : DW w w1 k n x s l) (hd : decodeM xs = none) {tmps : Array Value} (h2 : tmps.getD 2 undef = .pointer (some ⟨w.heap.size, 0, none⟩)) (h3 : tmps.getD 3 undef = .pointer (some ⟨w.heap.size + 1, 0, none⟩)) :
    bodyPostD Try.prog Try.f18 (DecodeR w xs) (Exit.panic codeErr) { tmps := tmps, defers := [{ target := Target.fn (Fn.func 31) #[.pointer (some ⟨w.heap.size, 0, none⟩), .pointer (some ⟨w.heap.size + 1, 0, none⟩)], args := #[] }] } w1 := by
  refine leaves_cons (f := 31) (args := #[.pointer (some ⟨w.heap.size, 0, none⟩), .pointer (some ⟨w.heap.size + 1, 0, none⟩)]) (by simp [codeErr]) (by simp [go_sem]) ?_
  refine (catch_panicking h.vc h.ec).mono ?_
  rintro e u' w2 ⟨rfl, rfl, hV2, hE2, hB2⟩
  refine ⟨_, results_cells2 rfl _ _ w.heap.size (w.heap.size + 1) _ _ _ _ _ _ _ .i64 h2 hV2.heap Try.underlying24 rfl (by kernel_rfl) h3 hE2 Try.underlying28, ?_⟩
  refine ⟨[.int .i64 0, .int .i64 0, .string ⟨#[]⟩, .slice none 0 0], fun _ => False, ?_, ?_, fun _ h => h.elim, h.below.trans hB2⟩
  · unfold decodeE; rw [hd]; rfl
  · unfold decodeV; rw [hd]
    exact kVal_mk ⟨0, 0, empty, []⟩ i64_0 i64_0 empty_le (SL.nil (Nat.zero_le _))
theorem decode_ok {w w1 : World} {xs : List UInt8} {v : Val} {F' : Foot} {k n : Int} {s : ByteArray} {l : Value} (h : DW w w1 k n 0 s l) (hd : decodeM xs = some v) (hK : kVal.K w1 F' v [.int .i64 k, .int .i64 n, .string s, l]) (hF : ∀ k, F' k → w.heap.size ≤ k ∧ k < w1.heap.size)
    {tmps : Array Value} (h2 : tmps.getD 2 undef = .pointer (some ⟨w.heap.size, 0, none⟩)) (h3 : tmps.getD 3 undef = .pointer (some ⟨w.heap.size + 1, 0, none⟩)) :
    bodyPostD Try.prog Try.f18 (DecodeR w xs) Exit.ret { tmps := tmps, defers := [{ target := Target.fn (Fn.func 31) #[.pointer (some ⟨w.heap.size, 0, none⟩), .pointer (some ⟨w.heap.size + 1, 0, none⟩)], args := #[] }] } w1 := by
  refine leaves_cons (f := 31) (args := #[.pointer (some ⟨w.heap.size, 0, none⟩), .pointer (some ⟨w.heap.size + 1, 0, none⟩)]) (by simp) (by simp [go_sem]) ?_
  refine catch_idle.mono ?_
  rintro e u' w2 ⟨rfl, rfl, rfl⟩
  refine ⟨_, results_cells2 rfl _ _ w.heap.size (w.heap.size + 1) _ _ _ _ _ _ _ .i64 h2 h.vc.heap Try.underlying24 rfl (by kernel_rfl) h3 h.ec Try.underlying28, ?_⟩
  refine ⟨[.int .i64 k, .int .i64 n, .string s, l], F', ?_, ?_, hF, h.below⟩
  · unfold decodeE; rw [hd]; rfl
  · unfold decodeV; rw [hd]
    exact hK

set_option maxRecDepth 100000 in
set_option maxHeartbeats 1000000 in
theorem decode_calls {w : World} {F : Foot} {A : Option Addr} {c : Nat} {xs : List UInt8} (h : SL kU8 w F A c xs) (hlen : xs.length ≤ 1000000000) :
    Calls Try.prog 18 #[.slice A xs.length c] w (DecodeR w xs) := by
  have hmf : ∀ (fn : Fn) (first cap : Array Value) (w : World), (Instr.makeFunc fn first cap).run Try.prog w = .ok (.func fn first cap) w := fun _ _ _ _ => rfl
  have hs : SL kU8 w (fun k => F k ∧ k < w.heap.size) A c xs := h.mono (fun k hk hl => ⟨hk, hl⟩)
  have hR : Rd (((w.alloc (.cells #[.int .i64 0, .int .i64 0, .string ⟨#[]⟩, .slice none 0 0] 24)).alloc (.cells #[.int .i64 0] 28)).alloc (.cells #[.slice A xs.length c] 58)) (w.heap.size + 2) (fun k => F k ∧ k < w.heap.size) xs := by
    refine ⟨⟨A, c, ?_, hs.below (by (with_reducible repeat (first | exact Below.refl _ _ | assumption | refine below_drew ?_ | refine below_drewN ?_ _ | refine below_box ?_ _)))⟩, fun h => by omega⟩
    have h0 := heap_new ((w.alloc (.cells #[.int .i64 0, .int .i64 0, .string ⟨#[]⟩, .slice none 0 0] 24)).alloc (.cells #[.int .i64 0] 28)) (.cells #[.slice A xs.length c] 58)
    rw [World.size_alloc, World.size_alloc] at h0
    exact h0
  have hC := value_calls 16 0 (by omega) hR (fun k hk => by simp; omega) hlen
  have hV : VC (((w.alloc (.cells #[.int .i64 0, .int .i64 0, .string ⟨#[]⟩, .slice none 0 0] 24)).alloc (.cells #[.int .i64 0] 28)).alloc (.cells #[.slice A xs.length c] 58)) w.heap.size 0 0 ⟨#[]⟩ (.slice none 0 0) := (VC.new w 0 0 ⟨#[]⟩ (.slice none 0 0)).below (by (with_reducible repeat (first | exact Below.refl _ _ | assumption | refine below_drew ?_ | refine below_drewN ?_ _ | refine below_box ?_ _)))
  have hE : EC (((w.alloc (.cells #[.int .i64 0, .int .i64 0, .string ⟨#[]⟩, .slice none 0 0] 24)).alloc (.cells #[.int .i64 0] 28)).alloc (.cells #[.slice A xs.length c] 58)) (w.heap.size + 1) 0 := by
    have h0 := heap_new (w.alloc (.cells #[.int .i64 0, .int .i64 0, .string ⟨#[]⟩, .slice none 0 0] 24)) (.cells #[.int .i64 0] 28)
    rw [World.size_alloc] at h0
    exact (Below.heap_alloc _ _ _ (by simp)).trans h0
  have HDW : Hid (DW w _ 0 0 0 ⟨#[]⟩ (.slice none 0 0)) := ⟨hV, hE, below_box (below_box (below_box (Below.refl _ _) _) _) _⟩
  have HC := Lib.hid hC
  clear h hs hR hC hV hE
  have HDG : ∀ w1, (((w.alloc (.cells #[.int .i64 0, .int .i64 0, .string ⟨#[]⟩, .slice none 0 0] 24)).alloc (.cells #[.int .i64 0] 28)).alloc (.cells #[.slice A xs.length c] 58)).grownBy w1 (some (w.heap.size + 2)) → DW w w1 0 0 0 ⟨#[]⟩ (.slice none 0 0) := fun w1 hg =>
    ⟨HDW.out.vc.grown hg (by omega), (hg.block _ (by simp) (fun e => by injection e with e; omega)).trans HDW.out.ec, HDW.out.below.trans ⟨hg.os, hg.tape, hg.output, hg.size, fun k hk => hg.block k (by simp; omega) (fun e => by injection e with e; omega)⟩⟩
  cases hv : valM 16 xs with
  | none =>
    have hd : decodeM xs = none := by unfold decodeM; rw [hv]; rfl
    rw [hv] at HC
    clear hv
    go_enter_defers Try.func18, Try.ntmps18
    go_wp2_with (go_at_call 32; refine HC.out.mono ?_; rintro e w1 ⟨hg1, he⟩; obtain rfl := he)
    exact decode_bad (HDG w1 hg1) hd rfl rfl
  | some p =>
    obtain ⟨v, r⟩ := p
    rw [hv] at HC
    cases r with
    | nil =>
      have hd : decodeM xs = some v := by unfold decodeM; rw [hv]; rfl
      clear hv
      go_enter_defers Try.func18, Try.ntmps18
      go_wp2_with (first | (go_at_call 32; refine HC.out.mono ?_; rintro e w1 ⟨hg1, he⟩; obtain ⟨v', rfl, ⟨cs, F', rfl, hK, hF'⟩, hR1⟩ := he; obtain ⟨A1, c1, rfl, _⟩ := kVal_open hK; have HW := Lib.hid (HDG w1 hg1); obtain ⟨⟨f1, f2, f3, f4⟩, f5, f6, f7, f8⟩ := HW.out.vc.facts; obtain ⟨e1, e2⟩ := HW.out.ec.facts; obtain ⟨⟨A2, c2, hc2, hs2⟩, hF2⟩ := hR1; have hcell : w1.cell? ⟨w.heap.size + 2, 0, none⟩ = some (.slice A2 0 c2) := (by simp [World.cell?, hc2])) | (go_at_call 33; refine want_ok.mono ?_; rintro e w2 ⟨rfl, rfl⟩))
      have hlo : ∀ k, F' k → w.heap.size + 3 ≤ k ∧ k < w1.heap.size := fun k hk => by have := hF' k hk; simp at this; exact ⟨by omega, this.2⟩
      refine decode_ok (F' := F') (((HW.out.set4).set4).sete) hd ?_ (fun k hk => ?_) rfl rfl
      · exact kd_set (kd_set (kd_set (kd_set (kd_set (kd_set (kd_set (kd_set (kd_set hK (fun k hk => by have := hlo k hk; omega)) (fun k hk => by have := hlo k hk; omega)) (fun k hk => by have := hlo k hk; omega)) (fun k hk => by have := hlo k hk; omega)) (fun k hk => by have := hlo k hk; omega)) (fun k hk => by have := hlo k hk; omega)) (fun k hk => by have := hlo k hk; omega)) (fun k hk => by have := hlo k hk; omega)) (fun k hk => by have := hlo k hk; omega)
      · have := hlo k hk
        simp only [World.setCell, Array.size_modify]
        omega
    | cons x r =>
      have hd : decodeM xs = none := by unfold decodeM; rw [hv]; rfl
      clear hv
      go_enter_defers Try.func18, Try.ntmps18
      go_wp2_with (first | (go_at_call 32; refine HC.out.mono ?_; rintro e w1 ⟨hg1, he⟩; obtain ⟨v', rfl, ⟨cs, F', rfl, hK, hF'⟩, hR1⟩ := he; obtain ⟨A1, c1, rfl, _⟩ := kVal_open hK; have HW := Lib.hid (HDG w1 hg1); obtain ⟨⟨f1, f2, f3, f4⟩, f5, f6, f7, f8⟩ := HW.out.vc.facts; obtain ⟨e1, e2⟩ := HW.out.ec.facts; obtain ⟨⟨A2, c2, hc2, hs2⟩, hF2⟩ := hR1; have hcell : w1.cell? ⟨w.heap.size + 2, 0, none⟩ = some (.slice A2 (r.length + 1) c2) := (by simp [World.cell?, hc2]); have hcr := Nat.le_trans hs2.le hs2.max; simp only [List.length_cons] at hcr; unfold maxLen at hcr) | (go_at_call 33; refine (want_no (by simp; omega)).mono ?_; rintro e w2 ⟨rfl, rfl⟩))
      exact decode_bad (HW.out.set4) hd rfl rfl
end Go.Proofs.Ytpmokmhakdkpdaa.B
