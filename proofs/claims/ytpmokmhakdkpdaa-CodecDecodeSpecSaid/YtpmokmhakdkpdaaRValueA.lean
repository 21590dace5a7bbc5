import Derived.Test.YtpmokmhakdkpdaaLength
import Derived.Test.YtpmokmhakdkpdaaOwn
import Derived.Laws.IdiomStrings
import Derived.Laws.BytesArg
namespace Go.Proofs.Ytpmokmhakdkpdaa.B
open Go.RowKit

/-- The value under construction at block b. -/
structure VC (w : World) (b : Nat) (k n : Int) (s : ByteArray) (l : Value) : Prop where
  heap : w.heap[b]? = some (.cells #[.int .i64 k, .int .i64 n, .string s, l] 24 (0, 0))
section
variable {w w' : World} {b g : Nat} {k n k' n' : Int} {s s' : ByteArray} {l l' : Value}
theorem VC.new (w : World) (k n : Int) (s : ByteArray) (l : Value) : VC (w.alloc (.cells #[.int .i64 k, .int .i64 n, .string s, l] 24)) w.heap.size k n s l := ⟨(by show (w.heap.push _)[w.heap.size]? = _; rw [Array.getElem?_push_size])⟩
theorem VC.facts (h : VC w b k n s l) : (w.cell? ⟨b, 0, none⟩ = some (.int .i64 k) ∧ w.cell? ⟨b, 1, none⟩ = some (.int .i64 n) ∧ w.cell? ⟨b, 2, none⟩ = some (.string s) ∧ w.cell? ⟨b, 3, none⟩ = some (l)) ∧ w.frozen? ⟨b, 0, none⟩ = false ∧ w.frozen? ⟨b, 1, none⟩ = false ∧ w.frozen? ⟨b, 2, none⟩ = false ∧ w.frozen? ⟨b, 3, none⟩ = false := by
  have := h.heap
  simp [World.cell?, World.frozen?, this]
theorem VC.lt (h : VC w b k n s l) : b < w.heap.size := (Array.getElem?_eq_some_iff.1 h.heap).1
theorem VC.grown (h : VC w b k n s l) (hg : w.grownBy w' (some g)) (hne : b ≠ g) : VC w' b k n s l := ⟨(hg.block b h.lt (fun e => hne (by injection e))).trans h.heap⟩
theorem VC.below (h : VC w b k n s l) (hb : Below w.heap.size w w') : VC w' b k n s l := ⟨(hb.block b h.lt).trans h.heap⟩
theorem VC.set0 (h : VC w b k n s l) : VC (w.setCell ⟨b, 0, none⟩ (.int .i64 k')) b k' n s l := ⟨by have := h.heap; simp [World.setCell, Array.getElem?_modify, this]⟩
theorem VC.set1 (h : VC w b k n s l) : VC (w.setCell ⟨b, 1, none⟩ (.int .i64 n')) b k n' s l := ⟨by have := h.heap; simp [World.setCell, Array.getElem?_modify, this]⟩
theorem VC.set2 (h : VC w b k n s l) : VC (w.setCell ⟨b, 2, none⟩ (.string s')) b k n s' l := ⟨by have := h.heap; simp [World.setCell, Array.getElem?_modify, this]⟩
theorem VC.set3 (h : VC w b k n s l) : VC (w.setCell ⟨b, 3, none⟩ l') b k n s l' := ⟨by have := h.heap; simp [World.setCell, Array.getElem?_modify, this]⟩
theorem grown_setNew {o : Nat} {p : Option (Nat)} {u : Value} (h : w.grownBy w' p) (hb : w.heap.size ≤ b) : w.grownBy (w'.setCell ⟨b, o, none⟩ u) p :=
  ⟨h.os, h.tape, h.output, by simpa [World.setCell] using h.size, fun k hk hne => (Below.heap_setCell _ _ _ _ (by show k ≠ b; omega)).trans (h.block k hk hne)⟩
theorem Rd.setOther {F : Foot} {rest : List UInt8} {o : Nat} {u : Value} (h : Rd w g F rest) (hb : ¬ F b) (hg : g ≠ b) : Rd (w.setCell ⟨b, o, none⟩ u) g F rest :=
  h.move (fun k hk _ => Below.heap_setCell _ _ _ _ (by show k ≠ b; rintro rfl; rcases hk with hk | hk; exact hb hk; exact hg hk.symm)) (by simp [World.setCell])
theorem size_set {a : Addr} {u : Value} : (w.setCell a u).heap.size = w.heap.size := by simp [World.setCell]
end
theorem SL.str {w : World} {F : Foot} {A : Option Addr} {c : Nat} {xs : List UInt8} (h : SL kU8 w F A c xs) {m : Nat} (hm : m = xs.length) :
    (convert 27 9 (.slice A m c)).run Try.prog w = .ok (.string ⟨xs.toArray⟩) w := by
  subst hm
  cases A with
  | none =>
    have : xs = [] := by
      cases xs with
      | nil => rfl
      | cons x r => obtain ⟨ad, h1, _⟩ := h.byte (i := 0) (by simp); cases h1
    subst this
    exact run_convert_bytes_nil w _ _ Try.underlying27 Try.underlying5 _ _ _ Try.underlying9
  | some ad =>
    exact run_convert_bytes_back w _ _ _ ad c xs Try.underlying27 Try.underlying5 Try.underlying9 (fun j hj => by obtain ⟨ad', h1, h2⟩ := h.byte hj; injection h1 with h1; subst h1; exact h2)
theorem results_cell {P : Program} {fn : Func} {p : Tmp} {ty : TypeId} (h : fn.results = #[.cell p ty]) (tmps : Array Value) (w : World) (g : Nat) (t : TypeId) (cs : Array Value) (fr : Nat × Nat) (d : TypeDesc)
    (hp : tmps.getD p undef = .pointer (some ⟨g, 0, none⟩)) (hg : w.heap[g]? = some (.cells cs t fr))
    (hu : P.underlying ty = some d) (hd : (match d with | .struct _ | .array _ _ => true | _ => false) = true) (hi : (P.info? ty).map (·.size) = some cs.size) :
    (results fn tmps).run P w = .ok (.agg cs) w := by
  have hp' : tmps[p]?.getD undef = .pointer (some ⟨g, 0, none⟩) := by simpa using hp
  simp [results, h, hp', asAddr, run_loadVar_row w g t ty cs fr d hg hu hd hi]
/-- What value() hands back: a value in new memory. -/
def ValR (w : World) (x : Val) (w' : World) (v : Value) : Prop := ∃ cs F', v = .agg cs.toArray ∧ kVal.K w' F' x cs ∧ ∀ k, F' k → w.heap.size ≤ k ∧ k < w'.heap.size
abbrev Reads (w : World) (g : Nat) (F : Foot) (r : Option (Val × List UInt8)) : Ending → World → Prop := ReadsTo w g F r (ValR w)

theorem bytes_size {l : List UInt8} {m : Nat} (h : l.length ≤ m) : (⟨l.toArray⟩ : ByteArray).size ≤ m := by simpa [ByteArray.size] using h
theorem i64_0 : I64 0 := by unfold I64; decide
theorem i64_1 : I64 1 := by unfold I64; decide
theorem i64_2 : I64 2 := by unfold I64; decide
theorem i64_3 : I64 3 := by unfold I64; decide
theorem empty_le : empty.size ≤ maxLen := by decide
theorem value_leave {w w2 : World} {g b : Nat} {F : Foot} {r' : List UInt8} {k n : Int} {s : ByteArray} {l : Value} (HV : VC w2 b k n s l) (HG : w.grownBy w2 (some g)) (HR : Rd w2 g F r') (hb : w.heap.size ≤ b) (hgb : g ≠ b) (hnF : ¬ F b)
    {tmps : Array Value} (hp : tmps.getD 4 undef = .pointer (some ⟨b, 0, none⟩)) {F' : Foot} (hF' : ∀ k, F' k → w.heap.size ≤ k ∧ k < w2.heap.size ∧ k ≠ b) (x : Val) (hx : kVal.K w2 F' x [.int .i64 k, .int .i64 n, .string s, l]) :
    bodyPost Try.prog Try.f32 (Reads w g F (some (x, r'))) Exit.ret { tmps := tmps, defers := [] }
      ((((w2.setCell ⟨b, 0, none⟩ (.int .i64 k)).setCell ⟨b, 1, none⟩ (.int .i64 n)).setCell ⟨b, 2, none⟩ (.string s)).setCell ⟨b, 3, none⟩ l) := by
  refine bodyPost_ret (results_cell rfl _ _ b _ _ _ _ hp ((((HV.set0.set1).set2).set3).heap) Try.underlying24 rfl (by kernel_rfl)) rfl ?_
  refine ReadsTo.ok (grown_setNew (grown_setNew (grown_setNew (grown_setNew HG hb) hb) hb) hb) ⟨_, F', rfl, ?_, fun k hk => ?_⟩ ((((HR.setOther hnF hgb).setOther hnF hgb).setOther hnF hgb).setOther hnF hgb)
  · refine kVal.move (fun k hk hl => ?_) (by simp [World.setCell]) hx
    have hne := (hF' k hk).2.2
    rw [Below.heap_setCell _ _ _ _ hne, Below.heap_setCell _ _ _ _ hne, Below.heap_setCell _ _ _ _ hne, Below.heap_setCell _ _ _ _ hne]
  · have := hF' k hk
    simp only [World.setCell, Array.size_modify]
    exact ⟨this.1, this.2.1⟩

theorem Rd.len_lt {w : World} {g : Nat} {F : Foot} {r : List UInt8} {n : Nat} (h : Rd w g F r) (hn : n ≤ r.length) : n < 9223372036854775808 := by
  obtain ⟨A, c, _, hs⟩ := h.at_
  have := Nat.le_trans hs.le hs.max
  unfold maxLen at this
  omega
set_option maxRecDepth 100000 in
set_option maxHeartbeats 2000000 in
theorem value_int {w : World} {g : Nat} {F : Foot} {c : UInt8} {r : List UInt8} {d k : Nat} (h : Rd w g F (c :: r)) (hF : ∀ k, F k → k < w.heap.size) (hc : c.toNat = 1) :
    Calls Try.prog 32 #[.pointer (some ⟨g, 0, none⟩), .int .i64 d] w (Reads w g F (valM k (c :: r))) := by
  have hlt := h.lt
  have HF := Lib.hid hF
  have hgb : w.heap.size ≠ g := by omega
  have H := Lib.hid (h.below (below_box (Below.refl _ _) (.cells #[.int .i64 0, .int .i64 0, .string ⟨#[]⟩, .slice none 0 0] 24)))
  have HV := Lib.hid (VC.new w 0 0 ⟨#[]⟩ (.slice none 0 0))
  have HG0 : Hid (w.grownBy (w.alloc (.cells #[.int .i64 0, .int .i64 0, .string ⟨#[]⟩, .slice none 0 0] 24)) (some g)) := grown_below (below_box (Below.refl _ _) _)
  have HnF : Hid (¬ F w.heap.size) := fun h => absurd (hF _ h) (Nat.lt_irrefl _)
  clear h hF
  cases hn : numM 0 r with
  | none =>
    have HN := Lib.hid hn
    clear hn
    have hnone : Hid (valM k (c :: r) = none) := by show valM k (c :: r) = _; unfold valM; rw [if_pos hc, HN.out]; rfl
    go_enter Try.func32, Try.ntmps32
    go_wp2_with (first | (go_at_call 44; refine (take1_cons H.out).mono ?_; rintro e w1 ⟨ad, cap, rfl, hcell, hg1, hr1⟩; have HV1 := Lib.hid (HV.out.grown hg1 hgb); obtain ⟨⟨f1, f2, f3, f4⟩, f5, f6, f7, f8⟩ := HV1.out.facts; have HG1 := Lib.hid (grown_trans HG0.out hg1); have HR1 := Lib.hid hr1; clear hg1 hr1) | (go_at_call 46; refine (number_calls (HR1.out.setOther HnF.out hgb.symm)).mono ?_; rintro e w2 ⟨hg2, he⟩; rw [HN.out] at he; obtain rfl := he; have HG2 := Lib.hid (grown_trans (grown_setNew HG1.out (Nat.le_refl _)) hg2); clear hg2))
    exact ⟨rfl, by rw [hnone.out]; exact ReadsTo.bad HG2.out⟩
  | some p =>
    obtain ⟨u, r'⟩ := p
    have HN := Lib.hid hn
    have hu : Hid (u < 18446744073709551616) := numM_lt r 0 (u, r') (by omega) hn
    clear hn
    have hsome : Hid (valM k (c :: r) = some (⟨1, zag u, empty, []⟩, r')) := by show valM k (c :: r) = _; unfold valM; rw [if_pos hc, HN.out]; rfl
    go_enter Try.func32, Try.ntmps32
    go_wp2_with (first | (go_at_call 44; refine (take1_cons H.out).mono ?_; rintro e w1 ⟨ad, cap, rfl, hcell, hg1, hr1⟩; have HV1 := Lib.hid (HV.out.grown hg1 hgb); obtain ⟨⟨f1, f2, f3, f4⟩, f5, f6, f7, f8⟩ := HV1.out.facts; have HG1 := Lib.hid (grown_trans HG0.out hg1); have HR1 := Lib.hid hr1; clear hg1 hr1) | (go_at_call 46; refine (number_calls (HR1.out.setOther HnF.out hgb.symm)).mono ?_; rintro e w2 ⟨hg2, he⟩; rw [HN.out] at he; obtain ⟨v2, rfl, rfl, hr2⟩ := he; have HV2 := Lib.hid ((HV1.out.set0 (k' := 1)).grown hg2 hgb); obtain ⟨⟨g1, g2, g3, g4⟩, g5, g6, g7, g8⟩ := HV2.out.facts; have HG2 := Lib.hid (grown_trans (grown_setNew HG1.out (Nat.le_refl _)) hg2); have HR2 := Lib.hid hr2; clear hg2 hr2) | (go_at_call 45; refine (signed_calls hu.out).mono ?_; rintro e w3 ⟨rfl, rfl⟩))
    rw [hsome.out]
    exact value_leave (HV2.out.set1) (grown_setNew HG2.out (Nat.le_refl _)) (HR2.out.setOther HnF.out hgb.symm) (Nat.le_refl _) hgb.symm HnF.out rfl (F' := fun _ => False) (fun _ h => h.elim) ⟨1, zag u, empty, []⟩ (kVal_mk _ i64_1 (zag_in hu.out) empty_le (SL.nil (Nat.zero_le _)))

set_option maxRecDepth 100000 in
set_option maxHeartbeats 2000000 in
theorem value_nil {w : World} {g : Nat} {F : Foot} {d k : Nat} (h : Rd w g F []) :
    Calls Try.prog 32 #[.pointer (some ⟨g, 0, none⟩), .int .i64 d] w (Reads w g F (valM k [])) := by
  have H := Lib.hid (h.below (below_box (Below.refl _ _) (.cells #[.int .i64 0, .int .i64 0, .string ⟨#[]⟩, .slice none 0 0] 24)))
  have HG0 : Hid (w.grownBy (w.alloc (.cells #[.int .i64 0, .int .i64 0, .string ⟨#[]⟩, .slice none 0 0] 24)) (some g)) := grown_below (below_box (Below.refl _ _) _)
  have hnone : Hid (valM k [] = none) := by show valM k [] = _; unfold valM; rfl
  clear h
  go_enter Try.func32, Try.ntmps32
  go_wp2_with (go_at_call 44; refine (take1_nil H.out).mono ?_; rintro e w1 ⟨rfl, hg1⟩; have HG1 := Lib.hid (grown_trans HG0.out hg1); clear hg1)
  exact ⟨rfl, by rw [hnone.out]; exact ReadsTo.bad HG1.out⟩

set_option maxRecDepth 100000 in
set_option maxHeartbeats 2000000 in
theorem value_bad {w : World} {g : Nat} {F : Foot} {c : UInt8} {r : List UInt8} {d k : Nat} (h : Rd w g F (c :: r)) (hF : ∀ k, F k → k < w.heap.size) (h1 : c.toNat ≠ 1) (h2 : c.toNat ≠ 2) (h3 : c.toNat ≠ 3) :
    Calls Try.prog 32 #[.pointer (some ⟨g, 0, none⟩), .int .i64 d] w (Reads w g F (valM k (c :: r))) := by
  have hlt := h.lt
  have HF := Lib.hid hF
  have hgb : w.heap.size ≠ g := by omega
  have H := Lib.hid (h.below (below_box (Below.refl _ _) (.cells #[.int .i64 0, .int .i64 0, .string ⟨#[]⟩, .slice none 0 0] 24)))
  have HV := Lib.hid (VC.new w 0 0 ⟨#[]⟩ (.slice none 0 0))
  have HG0 : Hid (w.grownBy (w.alloc (.cells #[.int .i64 0, .int .i64 0, .string ⟨#[]⟩, .slice none 0 0] 24)) (some g)) := grown_below (below_box (Below.refl _ _) _)
  have HnF : Hid (¬ F w.heap.size) := fun h => absurd (hF _ h) (Nat.lt_irrefl _)
  clear h hF
  have hnone : Hid (valM k (c :: r) = none) := by show valM k (c :: r) = _; unfold valM; rw [if_neg h1, if_neg h2, if_neg h3]
  have hc256 : c.toNat < 256 := c.toNat_lt
  go_enter Try.func32, Try.ntmps32
  go_wp2_with (first | (go_at_call 44; refine (take1_cons H.out).mono ?_; rintro e w1 ⟨ad, cap, rfl, hcell, hg1, hr1⟩; have HV1 := Lib.hid (HV.out.grown hg1 hgb); obtain ⟨⟨f1, f2, f3, f4⟩, f5, f6, f7, f8⟩ := HV1.out.facts; have HG1 := Lib.hid (grown_trans HG0.out hg1); have HR1 := Lib.hid hr1; clear hg1 hr1) | (go_at_call 33; refine (want_no rfl).mono ?_; rintro e w2 ⟨rfl, rfl⟩))
  exact ⟨rfl, by rw [hnone.out]; exact ReadsTo.bad (grown_setNew HG1.out (Nat.le_refl _))⟩

set_option maxRecDepth 100000 in
set_option maxHeartbeats 2000000 in
theorem value_text {w : World} {g : Nat} {F : Foot} {c : UInt8} {r : List UInt8} {d k : Nat} (h : Rd w g F (c :: r)) (hF : ∀ k, F k → k < w.heap.size) (hc : c.toNat = 2) :
    Calls Try.prog 32 #[.pointer (some ⟨g, 0, none⟩), .int .i64 d] w (Reads w g F (valM k (c :: r))) := by
  have hlt := h.lt
  have HF := Lib.hid hF
  have hgb : w.heap.size ≠ g := by omega
  have H := Lib.hid (h.below (below_box (Below.refl _ _) (.cells #[.int .i64 0, .int .i64 0, .string ⟨#[]⟩, .slice none 0 0] 24)))
  have HV := Lib.hid (VC.new w 0 0 ⟨#[]⟩ (.slice none 0 0))
  have HG0 : Hid (w.grownBy (w.alloc (.cells #[.int .i64 0, .int .i64 0, .string ⟨#[]⟩, .slice none 0 0] 24)) (some g)) := grown_below (below_box (Below.refl _ _) _)
  have HnF : Hid (¬ F w.heap.size) := fun h => absurd (hF _ h) (Nat.lt_irrefl _)
  clear h hF
  have hc1 : ¬ c.toNat = 1 := by omega
  cases hn : lenM r with
  | none =>
    have HN := Lib.hid hn
    clear hn
    have hnone : Hid (valM k (c :: r) = none) := by show valM k (c :: r) = _; unfold valM; rw [if_neg hc1, if_pos hc, HN.out]; rfl
    clear hc1
    go_enter Try.func32, Try.ntmps32
    go_wp2_with (first | (go_at_call 44; refine (take1_cons H.out).mono ?_; rintro e w1 ⟨ad, cap, rfl, hcell, hg1, hr1⟩; have HV1 := Lib.hid (HV.out.grown hg1 hgb); obtain ⟨⟨f1, f2, f3, f4⟩, f5, f6, f7, f8⟩ := HV1.out.facts; have HG1 := Lib.hid (grown_trans HG0.out hg1); have HR1 := Lib.hid hr1; clear hg1 hr1) | (go_at_call 47; refine (length_calls (HR1.out.setOther HnF.out hgb.symm)).mono ?_; rintro e w2 ⟨hg2, he⟩; rw [HN.out] at he; obtain rfl := he; have HG2 := Lib.hid (grown_trans (grown_setNew HG1.out (Nat.le_refl _)) hg2); clear hg2))
    exact ⟨rfl, by rw [hnone.out]; exact ReadsTo.bad HG2.out⟩
  | some p =>
    obtain ⟨n, r'⟩ := p
    have HN := Lib.hid hn
    have hnr : n ≤ r'.length := by
      unfold lenM at hn
      cases hm : numM 0 r with
      | none => rw [hm] at hn; cases hn
      | some q =>
        rw [hm] at hn
        simp only [Option.bind_some] at hn
        split at hn
        · injection hn with hn; subst hn; assumption
        · cases hn
    clear hn
    have hsome : Hid (valM k (c :: r) = some (⟨2, 0, ⟨(r'.take n).toArray⟩, []⟩, r'.drop n)) := by show valM k (c :: r) = _; unfold valM; rw [if_neg hc1, if_pos hc, HN.out]; rfl
    clear hc1
    have hif : Hid ((if n ≤ r'.length then some (r'.take n, r'.drop n) else none) = some (r'.take n, r'.drop n)) := if_pos hnr
    have HNR := Lib.hid hnr
    clear hnr
    go_enter Try.func32, Try.ntmps32
    go_wp2_with (first | (go_at_call 44; refine (take_calls HR2.out hn63.out).mono ?_; rintro e w3 ⟨hg3, he⟩; rw [hif.out] at he; obtain ⟨v3, rfl, ⟨A3, c3, rfl, hs3⟩, hr3⟩ := he; rw [List.length_take_of_le HNR.out]; have HV3 := Lib.hid (HV2.out.grown hg3 hgb); obtain ⟨⟨g1, g2, g3, g4⟩, g5, g6, g7, g8⟩ := HV3.out.facts; have hconv := SL.str hs3 (List.length_take_of_le HNR.out).symm; have hsl := Lib.hid (bytes_size (Nat.le_trans hs3.le hs3.max)); have HG3 := Lib.hid (grown_trans HG2.out hg3); have HR3 := Lib.hid hr3; clear hg3 hr3 hs3) | (go_at_call 44; refine (take1_cons H.out).mono ?_; rintro e w1 ⟨ad, cap, rfl, hcell, hg1, hr1⟩; have HV1 := Lib.hid (HV.out.grown hg1 hgb); obtain ⟨⟨f1, f2, f3, f4⟩, f5, f6, f7, f8⟩ := HV1.out.facts; have HG1 := Lib.hid (grown_trans HG0.out hg1); have HR1 := Lib.hid hr1; clear hg1 hr1) | (go_at_call 47; refine (length_calls (HR1.out.setOther HnF.out hgb.symm)).mono ?_; rintro e w2 ⟨hg2, he⟩; rw [HN.out] at he; obtain ⟨v2, rfl, rfl, hr2⟩ := he; have HV2 := Lib.hid ((HV1.out.set0 (k' := 2)).grown hg2 hgb); have HG2 := Lib.hid (grown_trans (grown_setNew HG1.out (Nat.le_refl _)) hg2); have HR2 := Lib.hid hr2; have hn63 := Lib.hid (Rd.len_lt hr2 HNR.out); clear hg2 hr2))
    rw [hsome.out]
    exact value_leave (HV3.out.set2) (grown_setNew HG3.out (Nat.le_refl _)) (HR3.out.setOther HnF.out hgb.symm) (Nat.le_refl _) hgb.symm HnF.out rfl (F' := fun _ => False) (fun _ h => h.elim) ⟨2, 0, ⟨(r'.take n).toArray⟩, []⟩ (kVal_mk _ i64_2 i64_0 hsl.out (SL.nil (Nat.zero_le _)))
end Go.Proofs.Ytpmokmhakdkpdaa.B
