import Derived.Test.YtpmokmhakdkpdaaRValueA
import Derived.Deep.DeepCutAuto
import Derived.Deep.RegionHeld3
namespace Go.Proofs.Ytpmokmhakdkpdaa.B
set_option linter.unusedSimpArgs false
set_option linter.unusedVariables false
open Go.RowKit

theorem info_val : (Try.prog.info? 24).map (fun i => (i.zero, i.size, i.bytes)) = some (some (.agg #[.int .i64 0, .int .i64 0, .string ⟨#[]⟩, .slice none 0 0]), 4, 56) := by kernel_rfl
theorem E_val : Elem Try.prog 22 24 4 56 := by
  obtain ⟨i, hi, h0, h1, h2⟩ := info_parts info_val
  exact ⟨Try.underlying22, ⟨i, _, hi, h0, h1, h2, rfl⟩, by decide⟩
theorem cell_newN (w : World) (cs : List Value) (t : TypeId) : ∀ i x, cs[i]? = some x → (w.alloc (.cells cs.toArray t)).cell? ((⟨w.heap.size, 0, none⟩ : Addr).add i) = some x := by
  intro i x hx
  have : (⟨w.heap.size, 0, none⟩ : Addr).add i = ⟨w.heap.size, i, none⟩ := by unfold Addr.add; split <;> simp_all
  rw [this]
  exact (World.cell?_alloc_at _ _ _ _ rfl).trans (by simpa using hx)

/-- Where the list's loop stands: i elements are read. -/
structure LS (w : World) (g : Nat) (F : Foot) (k n : Nat) (r0 : List UInt8) (i : Nat) (wr : World) (xs : List Val) (r : List UInt8) (rv : Value) (F' : Foot) : Prop where
  vc : VC wr w.heap.size 3 0 empty rv
  own : Own kVal 24 wr (w.heap.size + 1) F' rv xs
  foot : ∀ k, F' k → w.heap.size + 1 ≤ k ∧ k < wr.heap.size
  rd : Rd wr g F r
  grown : w.grownBy wr (some g)
  len : xs.length = i
  eqn : listM (valM k) n r0 = (listM (valM k) (n - i) r).map fun q => (xs ++ q.1, q.2)
  le : r.length ≤ r0.length

/-- Behind an element: it is read (w3), laid in a block of its own (wb), appended (w4), stored (the end). -/
theorem LS.next {w wr wc w3 wb w4 : World} {g : Nat} {F : Foot} {k n i : Nat} {r0 r r1 : List UInt8} {xs : List Val} {rv rv' : Value} {F' F3 : Foot} {x : Val}
    (h : LS w g F k n r0 i wr xs r rv F') (hg : g < w.heap.size) (hF : ∀ k, F k → k < w.heap.size) (hi : i < n) (hv : valM k r = some (x, r1)) (hr1 : r1.length ≤ r.length)
    (hc : Below wr.heap.size wr wc) (h3 : wc.grownBy w3 (some g)) (hF3 : ∀ k, F3 k → wc.heap.size ≤ k ∧ k < w3.heap.size) (hrd : Rd w3 g F r1) (hb : Below w3.heap.size w3 wb)
    (h4 : wb.grownBy w4 rv.ownBlock) (ho : Own kVal 24 w4 (w.heap.size + 1) (fun k => F' k ∨ F3 k) rv' (xs ++ [x])) :
    LS w g F k n r0 (i + 1) (w4.setCell ⟨w.heap.size, 3, none⟩ rv') (xs ++ [x]) r1 rv' (fun k => F' k ∨ F3 k) := by
  have s1 := hc.size
  have s2 := h3.size
  have s3 := hb.size
  have s4 := h4.size
  have s0 := h.grown.size
  have hvl := h.vc.lt
  have hown := h.own.lt
  have hown' := ho.lt
  have hne : w.heap.size ≠ g := by omega
  have hrv : (some w.heap.size : Option Nat) ≠ rv.ownBlock := fun e => by have := (hown _ e.symm).1; omega
  have hrv' : rv'.ownBlock ≠ some w.heap.size := fun e => by have := (hown' _ e).1; omega
  have hw4 : w.grownBy w4 (some g) := by
    refine ⟨h4.os.trans (hb.os.trans (h3.os.trans (hc.os.trans h.grown.os))), h4.tape.trans (hb.tape.trans (h3.tape.trans (hc.tape.trans h.grown.tape))), h4.output.trans (hb.output.trans (h3.output.trans (hc.output.trans h.grown.output))), by omega, fun j hj hjg => ?_⟩
    have e4 := h4.block j (by omega) (fun e => by have := (hown _ e.symm).1; omega)
    have e3 := hb.block j (by omega)
    have e2 := h3.block j (by omega) hjg
    have e1 := hc.block j (by omega)
    exact e4.trans (e3.trans (e2.trans (e1.trans (h.grown.block j hj hjg))))
  have hvc3 : VC w3 w.heap.size 3 0 empty rv := (h.vc.below hc).grown h3 hne
  have hvc4 : VC w4 w.heap.size 3 0 empty rv := ⟨(h4.block _ (Nat.lt_of_lt_of_le (Nat.lt_of_lt_of_le hvl (by omega)) (Nat.le_refl wb.heap.size)) hrv).trans (hvc3.below hb).heap⟩
  have hnF : ¬ F w.heap.size := fun hf => absurd (hF _ hf) (Nat.lt_irrefl _)
  refine ⟨hvc4.set3, ho.step (by simp [World.setCell]) (fun j hj _ => Below.heap_setCell _ _ _ _ ?_), fun j hj => ?_, ?_, grown_setNew hw4 (Nat.le_refl _), by rw [List.length_append, h.len]; rfl, ?_, Nat.le_trans hr1 h.le⟩
  · show j ≠ w.heap.size
    rintro rfl
    rcases hj with (hj | hj) | hj
    · have := (h.foot _ hj).1; omega
    · have := (hF3 _ hj).1; omega
    · exact hrv' hj
  · rw [size_set]
    rcases hj with hj | hj
    · have := h.foot j hj; omega
    · have := hF3 j hj; omega
  · refine Rd.setOther (hrd.move (fun j hj hl => ?_) (by omega)) hnF (by omega)
    have hjw : j < w.heap.size := by rcases hj with hj | hj; exact hF _ hj; omega
    exact (h4.block j (by omega) (fun e => by have := (hown _ e.symm).1; omega)).trans (hb.block j hl)
  · rw [h.eqn, show n - i = (n - (i + 1)) + 1 by omega, listM, hv]
    simp only [Option.bind_some]
    cases listM (valM k) (n - (i + 1)) r1 with
    | none => rfl
    | some q => simp

/-- The row ahead of the append. -/
theorem LS.own3 {w wr wc w3 wb : World} {g : Nat} {F : Foot} {k n i : Nat} {r0 r : List UInt8} {xs : List Val} {rv : Value} {F' F3 : Foot} {x : Val} {cs : List Value}
    (h : LS w g F k n r0 i wr xs r rv F') (hg : g < w.heap.size) (hc : Below wr.heap.size wr wc) (h3 : wc.grownBy w3 (some g)) (hF3 : ∀ k, F3 k → wc.heap.size ≤ k ∧ k < w3.heap.size) (hb : Below w3.heap.size w3 wb) (hK : kVal.K w3 F3 x cs) :
    Own kVal 24 wb (w.heap.size + 1) (fun k => F' k ∨ F3 k) rv xs ∧ kVal.K wb (fun k => F' k ∨ F3 k) x cs ∧ (∀ k, (F' k ∨ F3 k) → k < wb.heap.size) ∧ w.heap.size + 1 ≤ wb.heap.size := by
  have s1 := hc.size
  have s2 := h3.size
  have s3 := hb.size
  have s0 := h.grown.size
  have hvl := h.vc.lt
  have hown := h.own.lt
  refine ⟨?_, ?_, ?_, by omega⟩
  · refine Own.mono (((h.own.below hc).step h3.size (fun j hj hl => h3.block j hl (fun e => ?_))).below hb) (fun j hj _ => .inl hj) (fun j hj hf => ?_)
    · injection e with e
      subst e
      rcases hj with hj | hj
      · have := (h.foot _ hj).1; omega
      · have := (hown _ hj).1; omega
    · rcases hf with hf | hf
      · exact h.own.not j hj hf
      · have := (hF3 j hf).1; have := (hown j hj).2; omega
  · exact Kd.below (kVal.mono (fun j hj _ => .inr hj) hK) hb
  · rintro j (hj | hj)
    · have := (h.foot j hj).2; omega
    · have := (hF3 j hj).2; omega

set_option maxRecDepth 100000 in
set_option maxHeartbeats 2000000 in
theorem value_list0 {w : World} {g : Nat} {F : Foot} {c : UInt8} {r : List UInt8} (h : Rd w g F (c :: r)) (hF : ∀ k, F k → k < w.heap.size) (hc : c.toNat = 3) :
    Calls Try.prog 32 #[.pointer (some ⟨g, 0, none⟩), .int .i64 16] w (Reads w g F (valM 0 (c :: r))) := by
  have hlt := h.lt
  have HF := Lib.hid hF
  have hgb : w.heap.size ≠ g := by omega
  have H := Lib.hid (h.below (below_box (Below.refl _ _) (.cells #[.int .i64 0, .int .i64 0, .string ⟨#[]⟩, .slice none 0 0] 24)))
  have HV := Lib.hid (VC.new w 0 0 ⟨#[]⟩ (.slice none 0 0))
  have HG0 : Hid (w.grownBy (w.alloc (.cells #[.int .i64 0, .int .i64 0, .string ⟨#[]⟩, .slice none 0 0] 24)) (some g)) := grown_below (below_box (Below.refl _ _) _)
  clear h hF
  have hnone : Hid (valM 0 (c :: r) = none) := by show valM 0 (c :: r) = _; unfold valM; rw [if_neg (by omega), if_neg (by omega), if_pos hc]
  go_enter Try.func32, Try.ntmps32
  go_wp2_with (first | (go_at_call 44; refine (take1_cons H.out).mono ?_; rintro e w1 ⟨ad, cap, rfl, hcell, hg1, hr1⟩; have HV1 := Lib.hid (HV.out.grown hg1 hgb); obtain ⟨⟨f1, f2, f3, f4⟩, f5, f6, f7, f8⟩ := HV1.out.facts; have HG1 := Lib.hid (grown_trans HG0.out hg1); have HR1 := Lib.hid hr1; clear hg1 hr1) | (go_at_call 33; refine (want_no rfl).mono ?_; rintro e w2 ⟨rfl, rfl⟩))
  exact ⟨rfl, by rw [hnone.out]; exact ReadsTo.bad (grown_setNew HG1.out (Nat.le_refl _))⟩

set_option maxRecDepth 100000 in
set_option maxHeartbeats 3000000 in
theorem value_list {w : World} {g : Nat} {F : Foot} {c : UInt8} {r : List UInt8} {d k : Nat} (h : Rd w g F (c :: r)) (hF : ∀ k, F k → k < w.heap.size) (hc : c.toNat = 3) (hd : d < 16) (hlen : r.length ≤ 1000000000)
    (ih : ∀ (w : World) (F : Foot) (r : List UInt8), Rd w g F r → (∀ k, F k → k < w.heap.size) → r.length ≤ 1000000000 → Calls Try.prog 32 #[.pointer (some ⟨g, 0, none⟩), .int .i64 ((d : Int) + 1)] w (Reads w g F (valM k r))) :
    Calls Try.prog 32 #[.pointer (some ⟨g, 0, none⟩), .int .i64 d] w (Reads w g F (valM (k + 1) (c :: r))) := by
  have hlt := h.lt
  have hwrap : IntKind.i64.wrap ((d : Int) + 1) = (d : Int) + 1 := by rw [IntKind.wrap_i64]; omega
  have HF := Lib.hid hF
  have HIH := Lib.hid ih
  have HLEN := Lib.hid hlen
  have hgb : w.heap.size ≠ g := by omega
  have H := Lib.hid (h.below (below_box (Below.refl _ _) (.cells #[.int .i64 0, .int .i64 0, .string ⟨#[]⟩, .slice none 0 0] 24)))
  have HV := Lib.hid (VC.new w 0 0 ⟨#[]⟩ (.slice none 0 0))
  have HG0 : Hid (w.grownBy (w.alloc (.cells #[.int .i64 0, .int .i64 0, .string ⟨#[]⟩, .slice none 0 0] 24)) (some g)) := grown_below (below_box (Below.refl _ _) _)
  have HnF : Hid (¬ F w.heap.size) := fun h => absurd (hF _ h) (Nat.lt_irrefl _)
  clear h hF ih hlen
  have hc1 : ¬ c.toNat = 1 := by omega
  have hc2 : ¬ c.toNat = 2 := by omega
  cases hn : lenM r with
  | none =>
    have HN := Lib.hid hn
    clear hn
    have hnone : Hid (valM (k + 1) (c :: r) = none) := by show valM (k + 1) (c :: r) = _; unfold valM; rw [if_neg hc1, if_neg hc2, if_pos hc]; simp only; rw [HN.out]; rfl
    clear hc1 hc2
    go_enter Try.func32, Try.ntmps32
    go_wp2_with (first | (go_at_call 44; refine (take1_cons H.out).mono ?_; rintro e w1 ⟨ad, cap, rfl, hcell, hg1, hr1⟩; have HV1 := Lib.hid (HV.out.grown hg1 hgb); obtain ⟨⟨f1, f2, f3, f4⟩, f5, f6, f7, f8⟩ := HV1.out.facts; have HG1 := Lib.hid (grown_trans HG0.out hg1); have HR1 := Lib.hid hr1; clear hg1 hr1) | (go_at_call 33; refine (want_yes (by first | (simp; done) | (simp; omega))).mono ?_; rintro e w2 ⟨rfl, rfl⟩) | (go_at_call 47; refine (length_calls (HR1.out.setOther HnF.out hgb.symm)).mono ?_; rintro e w2 ⟨hg2, he⟩; rw [HN.out] at he; obtain rfl := he; have HG2 := Lib.hid (grown_trans (grown_setNew HG1.out (Nat.le_refl _)) hg2); clear hg2))
    exact ⟨rfl, by rw [hnone.out]; exact ReadsTo.bad HG2.out⟩
  | some p =>
    obtain ⟨n, r'⟩ := p
    have HN := Lib.hid hn
    clear hn
    have hsome : Hid (valM (k + 1) (c :: r) = (listM (valM k) n r').map fun q => (⟨3, 0, empty, q.1⟩, q.2)) := by show valM (k + 1) (c :: r) = _; unfold valM; rw [if_neg hc1, if_neg hc2, if_pos hc]; simp only; rw [HN.out]; rfl
    clear hc1 hc2
    have hnr := lenM_le HN.out
    have hrr := lenM_len HN.out
    have hn9 : n ≤ 1000000000 := by have := HLEN.out; omega
    have hr9 : r'.length ≤ 1000000000 := by have := HLEN.out; omega
    clear hnr hrr
    go_enter Try.func32, Try.ntmps32
    go_wp2_with (first | (go_at_call 44; refine (take1_cons H.out).mono ?_; rintro e w1 ⟨ad, cap, rfl, hcell, hg1, hr1⟩; have HV1 := Lib.hid (HV.out.grown hg1 hgb); obtain ⟨⟨f1, f2, f3, f4⟩, f5, f6, f7, f8⟩ := HV1.out.facts; have HG1 := Lib.hid (grown_trans HG0.out hg1); have HR1 := Lib.hid hr1; clear hg1 hr1) | (go_at_call 33; refine (want_yes (by first | (simp; done) | (simp; omega))).mono ?_; rintro e w2 ⟨rfl, rfl⟩) | (go_at_call 47; refine (length_calls (HR1.out.setOther HnF.out hgb.symm)).mono ?_; rintro e w2 ⟨hg2, he⟩; rw [HN.out] at he; obtain ⟨v2, rfl, rfl, hr2⟩ := he; have HV2 := Lib.hid ((HV1.out.set0 (k' := 3)).grown hg2 hgb); have HG2 := Lib.hid (grown_trans (grown_setNew HG1.out (Nat.le_refl _)) hg2); have HR2 := Lib.hid hr2; clear hg2 hr2))
    clear HV1 HG1 HR1 f1 f2 f3 f4 f5 f6 f7 f8 hcell
    go_loopw [37] (fun i' wr => ∃ i : Nat, i' = .int .i64 i ∧ i ≤ n ∧ ∃ xs r rv F', Hid (LS w g F k n r' i wr xs r rv F')) (fun i' _ => n - (intOf i').toNat)
    case atStart => exact ⟨0, rfl, Nat.zero_le _, [], r', .slice none 0 0, fun _ => False, HV2.out, Own.nil, fun _ h => h.elim, HR2.out, HG2.out, rfl, by simp, Nat.le_refl _⟩
    case round =>
      obtain ⟨i, rfl, hi, xs, r2, rv, F', hls⟩ := hrel
      clear HV2 HG2 HR2
      obtain ⟨⟨f1, f2, f3, f4⟩, f5, f6, f7, f8⟩ := hls.out.vc.facts
      by_cases hin : i < n
      · have hFr : Hid (∀ k, F k → k < wr.heap.size) := fun k hk => Nat.lt_of_lt_of_le (HF.out k hk) hls.out.grown.size
        have hle9 : Hid (r2.length ≤ 1000000000) := Nat.le_trans hls.out.le hr9
        have hC := HIH.out wr.drew F r2 (hls.out.rd.below (below_drew (Below.refl _ _))) hFr.out hle9.out
        cases hv : valM k r2 with
        | none =>
          rw [hv] at hC
          have HC := Lib.hid hC
          have HV := Lib.hid hv
          clear hv hC
          have hnone : Hid (valM (k + 1) (c :: r) = none) := by
            show valM (k + 1) (c :: r) = none
            rw [hsome.out, hls.out.eqn, show n - i = (n - (i + 1)) + 1 by omega, listM, HV.out]; rfl
          go_wp2_with fail
          refine wp_region_held_drew (S := fun _ => True) rfl trivial (fun hHeld => ?_)
          refine wpAnyH_take (i := 0) (v := ?_) rfl (by kernel_rfl) (by kernel_rfl) (by kernel_rfl) (fun _ _ _ h => h) (Or.inl ⟨by rfl, ?_⟩) (by assumption) ?_
          rotate_left
          · intro w hSw
            (try dsimp only at hSw)
            go_simp
            (try with_reducible rfl)
          simp only [Act.put, List.setIfInBounds_toArray, List.set_cons_zero, List.set_cons_succ]
          refine wpAnyH_take (i := 2) (v := ?_) rfl (by kernel_rfl) (by kernel_rfl) (by kernel_rfl) (fun _ _ _ h => h) (Or.inl ⟨by rfl, ?_⟩) (by assumption) ?_
          rotate_left
          · intro w hSw
            (try dsimp only at hSw)
            go_simp
            (try with_reducible rfl)
          simp only [Act.put, List.setIfInBounds_toArray, List.set_cons_zero, List.set_cons_succ]
          refine wpAnyH_take (i := 3) (v := ?_) rfl (by kernel_rfl) (by kernel_rfl) (by kernel_rfl) (fun _ _ _ h => h) (Or.inl ⟨by rfl, ?_⟩) (by assumption) ?_
          rotate_left
          · intro w hSw
            (try dsimp only at hSw)
            go_simp
            (try with_reducible rfl)
          simp only [Act.put, List.setIfInBounds_toArray, List.set_cons_zero, List.set_cons_succ]
          refine wpAnyH_take (i := 4) (v := ?_) rfl (by kernel_rfl) (by kernel_rfl) (by kernel_rfl) (fun _ _ _ h => h) (Or.inl ⟨by rfl, ?_⟩) (by assumption) ?_
          rotate_left
          · intro w hSw
            (try dsimp only at hSw)
            go_simp
            (try with_reducible rfl)
          simp only [Act.put, List.setIfInBounds_toArray, List.set_cons_zero, List.set_cons_succ]
          refine wpAnyH_ready (rs := [1, 5]) (by kernel_rfl) (by simp) (AllReadyH.cons rfl (fun K hK => ?_) (AllReadyH.cons rfl (fun K hK => ?_) AllReadyH.nil))
          · go_simp
            refine hK.out _ _ ?_ (fun hHeld => ?_)
            · trivial
            clear hK K
            try simp only [Act.put, List.setIfInBounds_toArray, List.set_cons_zero, List.set_cons_succ]
            refine wpAnyH_ready (rs := [5]) (by kernel_rfl) (by simp) (AllReadyH.cons rfl (fun K hK => ?_) AllReadyH.nil)
            go_simp
            refine HC.out.mono ?_
            rintro e w3 ⟨hg3, he⟩
            obtain rfl := he
            exact ⟨rfl, by rw [hnone.out]; exact ReadsTo.bad (grown_trans (grown_trans hls.out.grown (grown_below (below_drew (Below.refl _ _)))) hg3)⟩
          · go_simp
            refine HC.out.mono ?_
            rintro e w3 ⟨hg3, he⟩
            obtain rfl := he
            exact ⟨rfl, by rw [hnone.out]; exact ReadsTo.bad (grown_trans (grown_trans hls.out.grown (grown_below (below_drew (Below.refl _ _)))) hg3)⟩
        | some p =>
          obtain ⟨x, r3⟩ := p
          rw [hv] at hC
          have HC := Lib.hid hC
          have HV := Lib.hid hv
          clear hv hC
          have hr3 := Lib.hid (valM_len _ _ _ _ HV.out)
          go_wp2_with fail
          refine wp_region_held_drew (S := fun _ => True) rfl trivial (fun hHeld => ?_)
          refine wpAnyH_take (i := 0) (v := ?_) rfl (by kernel_rfl) (by kernel_rfl) (by kernel_rfl) (fun _ _ _ h => h) (Or.inl ⟨by rfl, ?_⟩) (by assumption) ?_
          rotate_left
          · intro w hSw
            (try dsimp only at hSw)
            go_simp
            (try with_reducible rfl)
          simp only [Act.put, List.setIfInBounds_toArray, List.set_cons_zero, List.set_cons_succ]
          refine wpAnyH_take (i := 2) (v := ?_) rfl (by kernel_rfl) (by kernel_rfl) (by kernel_rfl) (fun _ _ _ h => h) (Or.inl ⟨by rfl, ?_⟩) (by assumption) ?_
          rotate_left
          · intro w hSw
            (try dsimp only at hSw)
            go_simp
            (try with_reducible rfl)
          simp only [Act.put, List.setIfInBounds_toArray, List.set_cons_zero, List.set_cons_succ]
          refine wpAnyH_take (i := 3) (v := ?_) rfl (by kernel_rfl) (by kernel_rfl) (by kernel_rfl) (fun _ _ _ h => h) (Or.inl ⟨by rfl, ?_⟩) (by assumption) ?_
          rotate_left
          · intro w hSw
            (try dsimp only at hSw)
            go_simp
            (try with_reducible rfl)
          simp only [Act.put, List.setIfInBounds_toArray, List.set_cons_zero, List.set_cons_succ]
          refine wpAnyH_take (i := 4) (v := ?_) rfl (by kernel_rfl) (by kernel_rfl) (by kernel_rfl) (fun _ _ _ h => h) (Or.inl ⟨by rfl, ?_⟩) (by assumption) ?_
          rotate_left
          · intro w hSw
            (try dsimp only at hSw)
            go_simp
            (try with_reducible rfl)
          simp only [Act.put, List.setIfInBounds_toArray, List.set_cons_zero, List.set_cons_succ]
          refine wpAnyH_ready (rs := [1, 5]) (by kernel_rfl) (by simp) (AllReadyH.cons rfl (fun K hK => ?_) (AllReadyH.cons rfl (fun K hK => ?_) AllReadyH.nil))
          · go_simp
            refine hK.out _ _ ?_ (fun hHeld => ?_)
            · trivial
            clear hK K
            try simp only [Act.put, List.setIfInBounds_toArray, List.set_cons_zero, List.set_cons_succ]
            refine wpAnyH_ready (rs := [5]) (by kernel_rfl) (by simp) (AllReadyH.cons rfl (fun K hK => ?_) AllReadyH.nil)
            go_simp
            refine HC.out.mono ?_
            rintro e w3 ⟨hg3, he⟩
            obtain ⟨v3, rfl, ⟨cs3, F3, rfl, hK3, hF3⟩, hrd3⟩ := he
            obtain ⟨A3, c3, rfl, _⟩ := kVal_open hK3
            have hV3 := Lib.hid ((hls.out.vc.below (below_drew (Below.refl _ _))).grown hg3 hgb)
            have hS3 := hV3.out.facts.1.2.2.2
            go_simp
            refine hK.out _ _ ?_ (fun hHeld => ?_)
            · trivial
            clear hK K
            try simp only [Act.put, List.setIfInBounds_toArray, List.set_cons_zero, List.set_cons_succ]
            refine wpAnyH_ready (rs := [6]) (by kernel_rfl) (by simp) (AllReadyH.cons rfl (fun K hK => ?_) AllReadyH.nil)
            go_simp
            have hS4 := (hV3.out.below (below_box (Below.refl _ _) (.cells #[.int .i64 x.kind, .int .i64 x.n, .string x.s, .slice A3 x.l.length c3] 24))).facts.1.2.2.2
            obtain ⟨o1, o2, o3, o4⟩ := hls.out.own3 hlt (below_drew (Below.refl _ _)) hg3 hF3 (below_box (Below.refl _ _) (.cells #[.int .i64 x.kind, .int .i64 x.n, .string x.s, .slice A3 x.l.length c3] 24)) hK3
            have hby : (xs.length + 1) * 56 ≤ 140737488355328 := by have := hls.out.len; omega
            refine hK.out _ _ ?_ (fun hHeld => ?_)
            · trivial
            clear hK K
            try simp only [Act.put, List.setIfInBounds_toArray, List.set_cons_zero, List.set_cons_succ]
            refine wpAnyH_ready (rs := [7]) (by kernel_rfl) (by simp) (AllReadyH.cons rfl (fun K hK => ?_) AllReadyH.nil)
            refine step_app1 rfl (.tmp 40) (.tmp 45) _ rfl E_val x _ o1 rfl ⟨w3.heap.size, 0, none⟩ 1 rfl o2 (cell_newN w3 _ _) o3 hby (by decide) o4 ?_
            intro rv' w4 hown' hgrow hat'
            obtain ⟨A4, c4, hrv, _, _⟩ := hown'.form
            subst hrv
            have hV4 : VC w4 w.heap.size 3 0 empty rv := ⟨(hgrow.block _ (hV3.out.below (below_box (Below.refl _ _) _)).lt (fun e => by have := (hls.out.own.lt _ e.symm).1; omega)).trans (hV3.out.below (below_box (Below.refl _ _) _)).heap⟩
            obtain ⟨⟨g1, g2, g3, g4⟩, g5, g6, g7, g8⟩ := hV4.facts
            have HN4 : Hid (LS w g F k n r' (i + 1) (w4.setCell ⟨w.heap.size, 3, none⟩ (.slice A4 (xs ++ [x]).length c4)) (xs ++ [x]) r3 (.slice A4 (xs ++ [x]).length c4) (fun k => F' k ∨ F3 k)) := hls.out.next hlt HF.out hin HV.out hr3.out (below_drew (Below.refl _ _)) hg3 hF3 hrd3 (below_box (Below.refl _ _) _) hgrow hown'
            have hle4 : (xs ++ [x]).length = xs.length + 1 := by simp
            rw [hle4] at HN4
            refine hK.out _ _ ?_ (fun hHeld => ?_)
            · trivial
            clear hK K
            try simp only [Act.put, List.setIfInBounds_toArray, List.set_cons_zero, List.set_cons_succ]
            refine wpAnyH_ready (rs := [8]) (by kernel_rfl) (by simp) (AllReadyH.cons rfl (fun K hK => ?_) AllReadyH.nil)
            go_simp
            refine hK.out _ _ ?_ (fun hHeld => ?_)
            · trivial
            clear hK K
            try simp only [Act.put, List.setIfInBounds_toArray, List.set_cons_zero, List.set_cons_succ]
            refine wpAnyH_ready (rs := [9]) (by kernel_rfl) (by simp) (AllReadyH.cons rfl (fun K hK => ?_) AllReadyH.nil)
            go_simp
            refine hK.out _ _ ?_ (fun hHeld => ?_)
            · trivial
            clear hK K
            try simp only [Act.put, List.setIfInBounds_toArray, List.set_cons_zero, List.set_cons_succ]
            refine wpAnyH_done (by kernel_rfl) ?_ _
            clear hgrow hown' hat' hV4 g1 g2 g3 g4 g5 g6 g7 g8 hS3 hS4 o1 o2 o3 o4 hV3 hK3 hF3 hrd3 hg3
            go_wp2
            go_roundw
            case rel => exact ⟨i + 1, by go_num, by omega, _, _, _, _, HN4⟩
            case measure => simp [intOf]; omega
          · go_simp
            refine HC.out.mono ?_
            rintro e w3 ⟨hg3, he⟩
            obtain ⟨v3, rfl, ⟨cs3, F3, rfl, hK3, hF3⟩, hrd3⟩ := he
            obtain ⟨A3, c3, rfl, _⟩ := kVal_open hK3
            have hV3 := Lib.hid ((hls.out.vc.below (below_drew (Below.refl _ _))).grown hg3 hgb)
            have hS3 := hV3.out.facts.1.2.2.2
            go_simp
            refine hK.out _ _ ?_ (fun hHeld => ?_)
            · trivial
            clear hK K
            try simp only [Act.put, List.setIfInBounds_toArray, List.set_cons_zero, List.set_cons_succ]
            refine wpAnyH_ready (rs := [1, 6]) (by kernel_rfl) (by simp) (AllReadyH.cons rfl (fun K hK => ?_) (AllReadyH.cons rfl (fun K hK => ?_) AllReadyH.nil))
            · go_simp
              refine hK.out _ _ ?_ (fun hHeld => ?_)
              · trivial
              clear hK K
              try simp only [Act.put, List.setIfInBounds_toArray, List.set_cons_zero, List.set_cons_succ]
              refine wpAnyH_ready (rs := [6]) (by kernel_rfl) (by simp) (AllReadyH.cons rfl (fun K hK => ?_) AllReadyH.nil)
              go_simp
              have hS4 := (hV3.out.below (below_box (Below.refl _ _) (.cells #[.int .i64 x.kind, .int .i64 x.n, .string x.s, .slice A3 x.l.length c3] 24))).facts.1.2.2.2
              obtain ⟨o1, o2, o3, o4⟩ := hls.out.own3 hlt (below_drew (Below.refl _ _)) hg3 hF3 (below_box (Below.refl _ _) (.cells #[.int .i64 x.kind, .int .i64 x.n, .string x.s, .slice A3 x.l.length c3] 24)) hK3
              have hby : (xs.length + 1) * 56 ≤ 140737488355328 := by have := hls.out.len; omega
              refine hK.out _ _ ?_ (fun hHeld => ?_)
              · trivial
              clear hK K
              try simp only [Act.put, List.setIfInBounds_toArray, List.set_cons_zero, List.set_cons_succ]
              refine wpAnyH_ready (rs := [7]) (by kernel_rfl) (by simp) (AllReadyH.cons rfl (fun K hK => ?_) AllReadyH.nil)
              refine step_app1 rfl (.tmp 40) (.tmp 45) _ rfl E_val x _ o1 rfl ⟨w3.heap.size, 0, none⟩ 1 rfl o2 (cell_newN w3 _ _) o3 hby (by decide) o4 ?_
              intro rv' w4 hown' hgrow hat'
              obtain ⟨A4, c4, hrv, _, _⟩ := hown'.form
              subst hrv
              have hV4 : VC w4 w.heap.size 3 0 empty rv := ⟨(hgrow.block _ (hV3.out.below (below_box (Below.refl _ _) _)).lt (fun e => by have := (hls.out.own.lt _ e.symm).1; omega)).trans (hV3.out.below (below_box (Below.refl _ _) _)).heap⟩
              obtain ⟨⟨g1, g2, g3, g4⟩, g5, g6, g7, g8⟩ := hV4.facts
              have HN4 : Hid (LS w g F k n r' (i + 1) (w4.setCell ⟨w.heap.size, 3, none⟩ (.slice A4 (xs ++ [x]).length c4)) (xs ++ [x]) r3 (.slice A4 (xs ++ [x]).length c4) (fun k => F' k ∨ F3 k)) := hls.out.next hlt HF.out hin HV.out hr3.out (below_drew (Below.refl _ _)) hg3 hF3 hrd3 (below_box (Below.refl _ _) _) hgrow hown'
              have hle4 : (xs ++ [x]).length = xs.length + 1 := by simp
              rw [hle4] at HN4
              refine hK.out _ _ ?_ (fun hHeld => ?_)
              · trivial
              clear hK K
              try simp only [Act.put, List.setIfInBounds_toArray, List.set_cons_zero, List.set_cons_succ]
              refine wpAnyH_ready (rs := [8]) (by kernel_rfl) (by simp) (AllReadyH.cons rfl (fun K hK => ?_) AllReadyH.nil)
              go_simp
              refine hK.out _ _ ?_ (fun hHeld => ?_)
              · trivial
              clear hK K
              try simp only [Act.put, List.setIfInBounds_toArray, List.set_cons_zero, List.set_cons_succ]
              refine wpAnyH_ready (rs := [9]) (by kernel_rfl) (by simp) (AllReadyH.cons rfl (fun K hK => ?_) AllReadyH.nil)
              go_simp
              refine hK.out _ _ ?_ (fun hHeld => ?_)
              · trivial
              clear hK K
              try simp only [Act.put, List.setIfInBounds_toArray, List.set_cons_zero, List.set_cons_succ]
              refine wpAnyH_done (by kernel_rfl) ?_ _
              clear hgrow hown' hat' hV4 g1 g2 g3 g4 g5 g6 g7 g8 hS3 hS4 o1 o2 o3 o4 hV3 hK3 hF3 hrd3 hg3
              go_wp2
              go_roundw
              case rel => exact ⟨i + 1, by go_num, by omega, _, _, _, _, HN4⟩
              case measure => simp [intOf]; omega
            · go_simp
              have hS4 := (hV3.out.below (below_box (Below.refl _ _) (.cells #[.int .i64 x.kind, .int .i64 x.n, .string x.s, .slice A3 x.l.length c3] 24))).facts.1.2.2.2
              obtain ⟨o1, o2, o3, o4⟩ := hls.out.own3 hlt (below_drew (Below.refl _ _)) hg3 hF3 (below_box (Below.refl _ _) (.cells #[.int .i64 x.kind, .int .i64 x.n, .string x.s, .slice A3 x.l.length c3] 24)) hK3
              have hby : (xs.length + 1) * 56 ≤ 140737488355328 := by have := hls.out.len; omega
              refine hK.out _ _ ?_ (fun hHeld => ?_)
              · trivial
              clear hK K
              try simp only [Act.put, List.setIfInBounds_toArray, List.set_cons_zero, List.set_cons_succ]
              refine wpAnyH_ready (rs := [1]) (by kernel_rfl) (by simp) (AllReadyH.cons rfl (fun K hK => ?_) AllReadyH.nil)
              go_simp
              refine hK.out _ _ ?_ (fun hHeld => ?_)
              · trivial
              clear hK K
              try simp only [Act.put, List.setIfInBounds_toArray, List.set_cons_zero, List.set_cons_succ]
              refine wpAnyH_ready (rs := [7]) (by kernel_rfl) (by simp) (AllReadyH.cons rfl (fun K hK => ?_) AllReadyH.nil)
              refine step_app1 rfl (.tmp 40) (.tmp 45) _ rfl E_val x _ o1 rfl ⟨w3.heap.size, 0, none⟩ 1 rfl o2 (cell_newN w3 _ _) o3 hby (by decide) o4 ?_
              intro rv' w4 hown' hgrow hat'
              obtain ⟨A4, c4, hrv, _, _⟩ := hown'.form
              subst hrv
              have hV4 : VC w4 w.heap.size 3 0 empty rv := ⟨(hgrow.block _ (hV3.out.below (below_box (Below.refl _ _) _)).lt (fun e => by have := (hls.out.own.lt _ e.symm).1; omega)).trans (hV3.out.below (below_box (Below.refl _ _) _)).heap⟩
              obtain ⟨⟨g1, g2, g3, g4⟩, g5, g6, g7, g8⟩ := hV4.facts
              have HN4 : Hid (LS w g F k n r' (i + 1) (w4.setCell ⟨w.heap.size, 3, none⟩ (.slice A4 (xs ++ [x]).length c4)) (xs ++ [x]) r3 (.slice A4 (xs ++ [x]).length c4) (fun k => F' k ∨ F3 k)) := hls.out.next hlt HF.out hin HV.out hr3.out (below_drew (Below.refl _ _)) hg3 hF3 hrd3 (below_box (Below.refl _ _) _) hgrow hown'
              have hle4 : (xs ++ [x]).length = xs.length + 1 := by simp
              rw [hle4] at HN4
              refine hK.out _ _ ?_ (fun hHeld => ?_)
              · trivial
              clear hK K
              try simp only [Act.put, List.setIfInBounds_toArray, List.set_cons_zero, List.set_cons_succ]
              refine wpAnyH_ready (rs := [8]) (by kernel_rfl) (by simp) (AllReadyH.cons rfl (fun K hK => ?_) AllReadyH.nil)
              go_simp
              refine hK.out _ _ ?_ (fun hHeld => ?_)
              · trivial
              clear hK K
              try simp only [Act.put, List.setIfInBounds_toArray, List.set_cons_zero, List.set_cons_succ]
              refine wpAnyH_ready (rs := [9]) (by kernel_rfl) (by simp) (AllReadyH.cons rfl (fun K hK => ?_) AllReadyH.nil)
              go_simp
              refine hK.out _ _ ?_ (fun hHeld => ?_)
              · trivial
              clear hK K
              try simp only [Act.put, List.setIfInBounds_toArray, List.set_cons_zero, List.set_cons_succ]
              refine wpAnyH_done (by kernel_rfl) ?_ _
              clear hgrow hown' hat' hV4 g1 g2 g3 g4 g5 g6 g7 g8 hS3 hS4 o1 o2 o3 o4 hV3 hK3 hF3 hrd3 hg3
              go_wp2
              go_roundw
              case rel => exact ⟨i + 1, by go_num, by omega, _, _, _, _, HN4⟩
              case measure => simp [intOf]; omega
      · obtain rfl : i = n := by omega
        obtain ⟨A, cp, rfl, hsl⟩ := hls.out.own.sl_all
        have HSL := Lib.hid hsl
        have hend : Hid (valM (k + 1) (c :: r) = some (⟨3, 0, empty, xs⟩, r2)) := by
          show valM (k + 1) (c :: r) = _
          rw [hsome.out, hls.out.eqn, Nat.sub_self]
          show some _ = _
          show some (_, _) = some (_, _)
          simp
        clear hsl
        go_wp2
        rw [hend.out]
        exact value_leave hls.out.vc hls.out.grown hls.out.rd (Nat.le_refl _) hgb.symm HnF.out rfl (fun k hk => by rcases hk with hk | hk; exact ⟨by have := (hls.out.foot k hk).1; omega, (hls.out.foot k hk).2, by have := (hls.out.foot k hk).1; omega⟩; exact ⟨by have := (hls.out.own.lt k hk).1; omega, (hls.out.own.lt k hk).2, by have := (hls.out.own.lt k hk).1; omega⟩) ⟨3, 0, empty, xs⟩ (kVal_mk _ i64_3 i64_0 empty_le HSL.out)
end Go.Proofs.Ytpmokmhakdkpdaa.B
