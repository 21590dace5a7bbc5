import Derived.Test.YtpmokmhakdkpdaaRReadE
import Derived.Test.YtpmokmhakdkpdaaSaneB
import Derived.Test.YtpmokmhakdkpdaaCodecLaws
import Derived.Test.YtpmokmhakdkpdaaRefD
import Derived.Deep.RegionWith
namespace Go.Proofs.Ytpmokmhakdkpdaa.B
open Go.RowKit

theorem results_cell_tmp {P : Program} {fn : Func} {p q : Tmp} {ty : TypeId} (h : fn.results = #[.cell p ty, .tmp q]) (tmps : Array Value) (w : World) (g : Nat) (t : TypeId) (cs : Array Value) (fr : Nat × Nat) (d : TypeDesc)
    (hp : tmps.getD p undef = .pointer (some ⟨g, 0, none⟩)) (hg : w.heap[g]? = some (.cells cs t fr))
    (hu : P.underlying ty = some d) (hd : (match d with | .struct _ | .array _ _ => true | _ => false) = true) (hi : (P.info? ty).map (·.size) = some cs.size) :
    (results fn tmps).run P w = .ok (.tuple #[.agg cs, tmps.getD q undef]) w := by
  have hp' : tmps[p]?.getD undef = .pointer (some ⟨g, 0, none⟩) := by simpa using hp
  simp [results, h, hp', asAddr, run_loadVar_row w g t ty cs fr d hg hu hd hi]
theorem rd_leave {w w2 : World} {xs : List UInt8} {k0 n0 k n : Int} {s0 s : ByteArray} {l0 l : Value} (HV : VC w2 w.heap.size k0 n0 s0 l0) (HB : Below w.heap.size w w2) {tmps : Array Value} (hp : tmps.getD 2 undef = .pointer (some ⟨w.heap.size, 0, none⟩)) {z : Int} (hz : decodeE xs = z) (hq : tmps.getD 3 undef = .int .i64 z)
    {F' : Foot} (hF' : ∀ k, F' k → w.heap.size < k ∧ k < w2.heap.size) (hx : kVal.K w2 F' (decodeV xs) [.int .i64 k, .int .i64 n, .string s, l]) :
    bodyPost Try.prog Try.f19 (DecodeR w xs) Exit.ret { tmps := tmps, defers := [] }
      ((((w2.setCell ⟨w.heap.size, 0, none⟩ (.int .i64 k)).setCell ⟨w.heap.size, 1, none⟩ (.int .i64 n)).setCell ⟨w.heap.size, 2, none⟩ (.string s)).setCell ⟨w.heap.size, 3, none⟩ l) := by
  refine bodyPost_ret (results_cell_tmp rfl _ _ w.heap.size _ _ _ _ hp ((((HV.set0.set1).set2).set3).heap) Try.underlying24 rfl (by kernel_rfl)) rfl ?_
  refine ⟨[.int .i64 k, .int .i64 n, .string s, l], F', by rw [hq, hz], ?_, fun k hk => ?_, (((HB.setCell (Nat.le_refl _) _).setCell (Nat.le_refl _) _).setCell (Nat.le_refl _) _).setCell (Nat.le_refl _) _⟩
  · refine kVal.move (fun k hk hl => ?_) (by simp [World.setCell]) hx
    have hne : k ≠ w.heap.size := by have := hF' k hk; omega
    rw [Below.heap_setCell _ _ _ _ hne, Below.heap_setCell _ _ _ _ hne, Below.heap_setCell _ _ _ _ hne, Below.heap_setCell _ _ _ _ hne]
  · have := hF' k hk
    simp only [World.setCell, Array.size_modify]
    omega
theorem rs_new {w : World} {F : Foot} {A : Option Addr} {c : Nat} {xs : List UInt8} (h : SL kU8 w F A c xs) (t : TypeId) (ht : t = 62) : RS (w.alloc (.cells #[.slice A xs.length c, .int .i64 0, .bool false] t)) w.heap.size (fun k => F k ∧ k < w.heap.size) xs 0 false := by
  subst ht
  refine ⟨⟨A, c, heap_new _ _, (h.mono (fun k hk hl => ⟨hk, hl⟩)).below (below_box (Below.refl _ _) _)⟩, fun h => by omega, Nat.zero_le _⟩
theorem dec_none {xs : List UInt8} (h : decodeM xs = none) : decodeE xs = 10 ∧ decodeV xs = ⟨0, 0, empty, []⟩ := by
  unfold decodeE decodeV; rw [h]; exact ⟨rfl, rfl⟩
theorem dec_some {xs : List UInt8} {x : Val} (h : decodeM xs = some x) : decodeE xs = 0 ∧ decodeV xs = x := by
  unfold decodeE decodeV; rw [h]; exact ⟨rfl, rfl⟩

theorem rcheck_as {v : Val} {z : Int} (hz : checkM v = z) (hd : v.depth < 1000000000) {w : World} {F : Foot} {cs : List Value} (h : kVal.K w F v cs) :
    Calls Try.prog 17 #[.agg cs.toArray] w (Gives (.int .i64 z) w) := by subst hz; exact rcheck_calls hd h
theorem rencode_as {v : Val} {xs : List UInt8} (hz : enc v = xs) (hf : v.formed = true) (hl : xs.length ≤ 70368744177600) {w : World} {F : Foot} {cs : List Value} (h : kVal.K w F v cs) :
    Calls Try.prog 27 #[.agg cs.toArray] w fun e w' => ∃ A c, e = .returned (.slice A xs.length c) ∧ (convert 27 9 (.slice A xs.length c)).run Try.prog w' = .ok (.string ⟨xs.toArray⟩) w' ∧ Below w.heap.size w w' := by
  subst hz
  refine (rencode_calls v hf hl w F cs h).mono ?_
  rintro e w1 ⟨v', rfl, hown, hb⟩
  obtain ⟨A, c, rfl, hsl⟩ := hown.sl_all
  exact ⟨A, c, rfl, SL.str hsl rfl, hb⟩
set_option maxRecDepth 100000 in
set_option maxHeartbeats 4000000 in
/-- The reference's Decode. -/
theorem rdecode_calls {w : World} {F : Foot} {A : Option Addr} {c : Nat} {xs : List UInt8} (h : SL kU8 w F A c xs) (hlen : xs.length ≤ 1000000) :
    Calls Try.prog 19 #[.slice A xs.length c] w (DecodeR w xs) := by
  have HS := Lib.hid h
  have HV := Lib.hid (VC.new w 0 0 ⟨#[]⟩ (.slice none 0 0))
  have hr := rs_new (h.below (below_box (Below.refl _ _) (.cells #[.int .i64 0, .int .i64 0, .string ⟨#[]⟩, .slice none 0 0] 24))) _ rfl
  rw [World.size_alloc] at hr
  have HR := Lib.hid hr
  clear h hr
  go_enter Try.func19, Try.ntmps19
  go_wp2_with fail
  refine (rvalue_calls (g := w.heap.size + 1) (xs := xs) (by omega) 16 0 (by omega) _ _ 0 HR.out (fun k hk => by rw [World.size_alloc, World.size_alloc]; omega)).mono ?_
  rintro e w1 ⟨hg1, x, cs, F1, q, b, rfl, hK1, hF1, hrs1, hv1⟩
  obtain ⟨A1, c1, rfl, _⟩ := kVal_open hK1
  rw [List.drop_zero] at hv1
  have HB1 : Hid (Below w.heap.size w w1) := (Below.grown (below_box (below_box (Below.refl _ _) _) _) hg1 (by simp; omega) (fun k hk => by injection hk with hk; omega))
  have hV1 := (HV.out.below (below_box (Below.refl _ _) (.cells #[.slice A xs.length c, .int .i64 0, .bool false] 62))).grown hg1 (by omega)
  have HV1 := Lib.hid hV1
  have HF1 := Lib.hid hF1
  have HK1 := Lib.hid hK1
  have HR1 := Lib.hid hrs1
  have Hv1 := Lib.hid hv1
  have HV5 := Lib.hid (VC.new w1 x.kind x.n x.s (.slice A1 x.l.length c1))
  have HV15 := Lib.hid (HV1.out.below (below_box (Below.refl _ _) (.cells #[.int .i64 x.kind, .int .i64 x.n, .string x.s, .slice A1 x.l.length c1] 24)))
  have HR15 := Lib.hid (HR1.out.below (below_box (Below.refl _ _) (.cells #[.int .i64 x.kind, .int .i64 x.n, .string x.s, .slice A1 x.l.length c1] 24)))
  clear hg1 hV1 hF1 hK1 hrs1 hv1
  obtain ⟨A2, c2, g0, g1, g2, _, _, _⟩ := HR15.out.facts
  go_wp2_with fail
  cases b
  · by_cases hq : q = xs.length
    · subst hq
      rw [List.drop_length] at Hv1
      have HD : Hid (decodeM xs = some x) := by show decodeM xs = some x; unfold decodeM; rw [Hv1.out]; rfl
      have HC0 : Hid (checkM x = 0) := (decodeM_inv HD.out).1
      have HE0 : Hid (encodeM x = xs) := (decodeM_inv HD.out).2
      have HDX : Hid (x.depth < 1000000000) := by have := (checkM_ok HC0.out).2; show x.depth < 1000000000; omega
      have HFX : Hid (x.formed = true) := (checkM_ok HC0.out).1
      have HEX : Hid (enc x = xs) := by show enc x = xs; rw [← encodeM_of HC0.out, HE0.out]
      have HB5 : Hid (Below w.heap.size w (w1.alloc (.cells #[.int .i64 x.kind, .int .i64 x.n, .string x.s, .slice A1 x.l.length c1] 24))) := below_box HB1.out _
      have KEEP0 : ∀ w', Below (w1.alloc (.cells #[.int .i64 x.kind, .int .i64 x.n, .string x.s, .slice A1 x.l.length c1] 24)).heap.size (w1.alloc (.cells #[.int .i64 x.kind, .int .i64 x.n, .string x.s, .slice A1 x.l.length c1] 24)) w' → (fun w' => Below (w1.alloc (.cells #[.int .i64 x.kind, .int .i64 x.n, .string x.s, .slice A1 x.l.length c1] 24)).heap.size (w1.alloc (.cells #[.int .i64 x.kind, .int .i64 x.n, .string x.s, .slice A1 x.l.length c1] 24)) w' ∧ w'.cell? ⟨w.heap.size + 1, 1, none⟩ = some (.int .i64 xs.length) ∧ w'.cell? ⟨w.heap.size + 1, 2, none⟩ = some (.bool false) ∧ (w'.cell? ⟨w1.heap.size, 0, none⟩ = some (.int .i64 x.kind) ∧ w'.cell? ⟨w1.heap.size, 1, none⟩ = some (.int .i64 x.n) ∧ w'.cell? ⟨w1.heap.size, 2, none⟩ = some (.string x.s) ∧ w'.cell? ⟨w1.heap.size, 3, none⟩ = some (.slice A1 x.l.length c1)) ∧ (convert 27 9 (.slice A xs.length c)).run Try.prog w' = .ok (.string ⟨xs.toArray⟩) w') w' := fun w' hb => by
        refine ⟨hb, keepcell hb g1, keepcell hb g2, (HV5.out.below hb).facts.1, SL.str (HS.out.below (below_then HB5.out hb)) rfl⟩
      have KEEP := Lib.hid (fun w' w'' (h : (fun w' => Below (w1.alloc (.cells #[.int .i64 x.kind, .int .i64 x.n, .string x.s, .slice A1 x.l.length c1] 24)).heap.size (w1.alloc (.cells #[.int .i64 x.kind, .int .i64 x.n, .string x.s, .slice A1 x.l.length c1] 24)) w' ∧ w'.cell? ⟨w.heap.size + 1, 1, none⟩ = some (.int .i64 xs.length) ∧ w'.cell? ⟨w.heap.size + 1, 2, none⟩ = some (.bool false) ∧ (w'.cell? ⟨w1.heap.size, 0, none⟩ = some (.int .i64 x.kind) ∧ w'.cell? ⟨w1.heap.size, 1, none⟩ = some (.int .i64 x.n) ∧ w'.cell? ⟨w1.heap.size, 2, none⟩ = some (.string x.s) ∧ w'.cell? ⟨w1.heap.size, 3, none⟩ = some (.slice A1 x.l.length c1)) ∧ (convert 27 9 (.slice A xs.length c)).run Try.prog w' = .ok (.string ⟨xs.toArray⟩) w') w') (hb : Below w'.heap.size w' w'') => KEEP0 w'' (below_then h.1 hb))
      have KEEP1 := Lib.hid (KEEP0 _ (below_drew (Below.refl _ _)))
      clear KEEP0 g0 g1 g2
      obtain ⟨_, a1, a2, ⟨a3, a4, a5, a6⟩, a7⟩ := KEEP1.out
      go_region_with (first
        | (go_at_call 17; refine (rcheck_as HC0.out HDX.out (Kd.below HK1.out (below_then (below_box (Below.refl _ _) _) (below_drew (Below.refl _ _))))).mono ?_; rintro e w7 ⟨rfl, hb7⟩; obtain ⟨hb7', b1, b2, ⟨b3, b4, b5, b6⟩, b7⟩ := KEEP.out _ _ KEEP1.out hb7)
        | (go_at_call 27; refine (rencode_as HEX.out HFX.out (by omega) (Kd.below HK1.out (below_then (below_box (Below.refl _ _) _) hb7'))).mono ?_; rintro e w8 ⟨A8, c8, rfl, hconv8, hb8⟩; obtain ⟨hb8', d1, d2, ⟨d3, d4, d5, d6⟩, d7⟩ := KEEP.out _ _ ⟨hb7', b1, b2, ⟨b3, b4, b5, b6⟩, b7⟩ hb8))
      all_goals
        have HBF := Lib.hid hb8'
        clear hb8' d1 d2 d7 b1 b2 b3 b4 b5 b6 b7 a1 a2 a3 a4 a5 a6 a7 hconv8
        obtain ⟨⟨y1, y2, y3, y4⟩, y5, y6, y7, y8⟩ := (HV15.out.below HBF.out).facts
        go_wp2
        exact rd_leave (HV15.out.below HBF.out) (below_then HB5.out HBF.out) rfl (dec_some HD.out).1 rfl (F' := F1) (fun k hk => by have := HF1.out k hk; have := HBF.out.size; simp only [World.size_alloc] at *; omega) (by rw [(dec_some HD.out).2]; exact Kd.below HK1.out (below_then (below_box (Below.refl _ _) _) HBF.out))
    · have HD : Hid (decodeM xs = none) := by
        show decodeM xs = none
        unfold decodeM; rw [Hv1.out]
        have hle := HR1.out.le
        have : (xs.drop q).isEmpty = false := by simp; omega
        show (if (xs.drop q).isEmpty then some x else none) = none
        rw [this]; rfl
      have bq : ((q : Int) != (xs.length : Int)) = true := by simp; omega
      clear hq
      have y1 := fun n => (HV15.out.below (below_drewN (Below.refl _ _) n)).facts.1.1
      have y2 := fun n => (HV15.out.below (below_drewN (Below.refl _ _) n)).facts.1.2.1
      have y3 := fun n => (HV15.out.below (below_drewN (Below.refl _ _) n)).facts.1.2.2.1
      have y4 := fun n => (HV15.out.below (below_drewN (Below.refl _ _) n)).facts.1.2.2.2
      have y5 := fun n => (HV15.out.below (below_drewN (Below.refl _ _) n)).facts.2.1
      have y6 := fun n => (HV15.out.below (below_drewN (Below.refl _ _) n)).facts.2.2.1
      have y7 := fun n => (HV15.out.below (below_drewN (Below.refl _ _) n)).facts.2.2.2.1
      have y8 := fun n => (HV15.out.below (below_drewN (Below.refl _ _) n)).facts.2.2.2.2
      go_quiet (fail)
      go_wp2
      exact rd_leave (HV15.out.below (below_drewN (Below.refl _ _) _)) (below_drewN (below_box HB1.out _) _) rfl (dec_none HD.out).1 rfl (F' := fun _ => False) (fun _ h => h.elim) (by rw [(dec_none HD.out).2]; exact kZero _ _)
  · have HD : Hid (decodeM xs = none) := by show decodeM xs = none; unfold decodeM; rw [Hv1.out]; rfl
    have y1 := fun n => (HV15.out.below (below_drewN (Below.refl _ _) n)).facts.1.1
    have y2 := fun n => (HV15.out.below (below_drewN (Below.refl _ _) n)).facts.1.2.1
    have y3 := fun n => (HV15.out.below (below_drewN (Below.refl _ _) n)).facts.1.2.2.1
    have y4 := fun n => (HV15.out.below (below_drewN (Below.refl _ _) n)).facts.1.2.2.2
    have y5 := fun n => (HV15.out.below (below_drewN (Below.refl _ _) n)).facts.2.1
    have y6 := fun n => (HV15.out.below (below_drewN (Below.refl _ _) n)).facts.2.2.1
    have y7 := fun n => (HV15.out.below (below_drewN (Below.refl _ _) n)).facts.2.2.2.1
    have y8 := fun n => (HV15.out.below (below_drewN (Below.refl _ _) n)).facts.2.2.2.2
    go_quiet (fail)
    go_wp2
    exact rd_leave (HV15.out.below (below_drewN (Below.refl _ _) _)) (below_drewN (below_box HB1.out _) _) rfl (dec_none HD.out).1 rfl (F' := fun _ => False) (fun _ h => h.elim) (by rw [(dec_none HD.out).2]; exact kZero _ _)
end Go.Proofs.Ytpmokmhakdkpdaa.B
