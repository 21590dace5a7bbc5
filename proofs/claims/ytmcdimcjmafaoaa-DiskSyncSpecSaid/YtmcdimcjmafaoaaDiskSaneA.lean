/- law47.sane: what its calls answer; a write of too many bytes. -/
import Derived.Test.YtmcdimcjmafaoaaDiskRead
import Derived.Test.YtmcdimcjmafaoaaDouble
import Derived.Test.YtmcdimcjmafaoaaDiskQ
namespace Go.Proofs.Ytmcdimcjmafaoaa.B
set_option linter.unusedVariables false
set_option linter.unusedSimpArgs false
open Go.RowKit

def qA : Dsk := newD 2
def qB : Dsk := writeD qA 1 [7]
def qS : Dsk := stopD qB 1
def qT : Dsk := writeD qS 0 (dbl 8)
def qX : Dsk := syncD qT
def qR : Dsk := restartD qX
theorem sane_e : newE 0 = 1 ∧ newE 2 = 0 ∧ writeE qA 1 [7] = 0 ∧ readE qB 1 = 0 ∧ readE qA 2 = 470 ∧ stopE qB 1 = 0 ∧ writeE qS 0 (dbl 8) = 0 ∧ syncE qT = 470 ∧ qX.stop = true ∧ readE qR 1 = 0 ∧ readE qR 0 = 0 ∧ readE (restartD qB) 1 = 0 ∧ checkD zeroD = 470 ∧ (restartD zeroD).left = -1 := by decide +kernel
theorem sane_r : qA.runs = true ∧ qA.has 0 = true := by decide +kernel
theorem sane_b : (readD qB 1).length = 128 ∧ (readD qB 1)[0]? = some 7 ∧ (readD qR 1).length = 128 ∧ (readD qR 1)[0]? = some 7 ∧ (readD qR 0).length = 128 ∧ (readD qR 0)[0]? = some 8 ∧ (readD qR 0)[64]? = some 0 ∧ (readD (restartD qB) 1).length = 128 ∧ (readD (restartD qB) 1)[0]? = some 0 := by decide +kernel
theorem sane_l : (readD qA 2).length = 0 ∧ qX.stop = true := by decide +kernel
/-- A byte that is read, its number known. -/
theorem SL.at_n {w : World} {F : Foot} {A : Option Addr} {c : Nat} {xs : List UInt8} (h : SL kU8 w F A c xs) {i : Nat} {b : UInt8} {n : Int} (hi : xs[i]? = some b) (hn : (b.toNat : Int) = n) : ∃ ad, A = some ad ∧ w.cell? (ad.add i) = some (.int .u8 n) := by
  obtain ⟨hl, e⟩ := List.getElem?_eq_some_iff.1 hi
  obtain ⟨ad, hA, hc⟩ := h.byte hl
  rw [e, hn] at hc
  exact ⟨ad, hA, hc⟩
theorem SL.at_0 {w : World} {F : Foot} {A : Option Addr} {c : Nat} {xs : List UInt8} (h : SL kU8 w F A c xs) {b : UInt8} {n : Int} (hi : xs[0]? = some b) (hn : (b.toNat : Int) = n) : ∃ ad, A = some ad ∧ w.cell? ad = some (.int .u8 n) := by
  obtain ⟨ad, hA, hc⟩ := h.at_n hi hn
  exact ⟨ad, hA, by simpa [Addr.add] using hc⟩
theorem SL.at_k {w : World} {F : Foot} {A : Option Addr} {c : Nat} {xs : List UInt8} (h : SL kU8 w F A c xs) {i : Nat} {b : UInt8} {n : Int} (h0 : 0 < i) (hi : xs[i]? = some b) (hn : (b.toNat : Int) = n) : ∃ ad, A = some ad ∧ w.cell? ⟨ad.block, ad.off + i, none⟩ = some (.int .u8 n) := by
  obtain ⟨ad, hA, hc⟩ := h.at_n hi hn
  refine ⟨ad, hA, ?_⟩
  unfold Addr.add at hc
  rw [if_neg (by omega)] at hc
  exact hc

/-! ### contracts with their answers named -/
section
variable {d d' : Dsk} {z p n : Int} {m k : Nat} {b : List UInt8} {w : World} {F : Foot} {cs : List Value} {Ab : Option Addr} {cb : Nat}
theorem new_as (hd : newD n = d) (hz : newE n = z) (hn : I64 n) : Calls Try.prog 12 #[.int .i64 n] w (DskF (fun _ => False) d z w) := by subst hd; subst hz; exact newF_calls hn
theorem write_as (hd : writeD d p b = d') (hz : writeE d p b = z) (hm : b.length = m) (h : kDsk.K w F d cs) (hp : I64 p) (hb : SL kU8 w (Old w) Ab cb b) : Calls Try.prog 19 #[.agg cs.toArray, .int .i64 p, .slice Ab m cb] w (DskF F d' z w) := by subst hd; subst hz; subst hm; exact writeF_calls h hp hb
theorem stop_as (hd : stopD d n = d') (hz : stopE d n = z) (h : kDsk.K w F d cs) (hn : I64 n) : Calls Try.prog 25 #[.agg cs.toArray, .int .i64 n] w (DskF F d' z w) := by subst hd; subst hz; exact stopF_calls h hn
theorem sync_as (hd : syncD d = d') (hz : syncE d = z) (h : kDsk.K w F d cs) : Calls Try.prog 23 #[.agg cs.toArray] w (DskF F d' z w) := by subst hd; subst hz; exact syncF_calls h
theorem restart_as (hd : restartD d = d') (h : kDsk.K w F d cs) : Calls Try.prog 17 #[.agg cs.toArray] w (DskRF F d' w) := by subst hd; exact restartF_calls h
/-- Read, its bytes' number named. -/
def ReadN (F : Foot) (xs : List UInt8) (m : Nat) (z : Int) (w : World) (e : Ending) (w' : World) : Prop := ∃ A c, e = .returned (.tuple #[.slice A m c, .int .i64 z]) ∧ SL kU8 w' F A c xs ∧ Below w.heap.size w w'
theorem read_as (hz : readE d p = z) (hm : (readD d p).length = m) (h : kDsk.K w F d cs) (hp : I64 p) : Calls Try.prog 21 #[.agg cs.toArray, .int .i64 p] w (ReadN F (readD d p) m z w) := by subst hz; subst hm; exact read_calls h hp
end
theorem i64_lit {n : Int} (h1 : -1000 ≤ n) (h2 : n ≤ 1000) : I64 n := by unfold I64; omega

set_option maxRecDepth 100000 in
set_option maxHeartbeats 1000000 in
/-- Too many bytes, whatever they are. -/
theorem write_big_calls {d : Dsk} {p : Int} {m : Nat} {w : World} {cs : List Value} {Ab : Option Addr} {cb : Nat} (h : kDsk.K w (Old w) d cs) (hp : I64 p) (hr : d.runs = true) (hh : d.has p = true) (hm : 128 < m) (hmx : m ≤ 1000000) :
    Calls Try.prog 19 #[.agg cs.toArray, .int .i64 p, .slice Ab m cb] w (DskE zeroD 1 w) := by
  have H := Lib.hid h
  obtain ⟨A, c, A', c', rfl, hs, hpe, hl⟩ := kDsk_open h
  have HI := Lib.hid hp
  have HR := Lib.hid hr
  have HH := Lib.hid hh
  clear h hs hpe hp hl hr hh
  have HB := Lib.hid ((dsk_box w d A A' c c').below (below_box (Below.refl _ _) (.cells #[.slice none 0 0, .slice none 0 0, .int .i64 0, .bool false] 25)))
  have HV := Lib.hid (Blk.new (w.alloc (.cells #[.slice A d.secs.length c, .slice A' d.pend.length c', .int .i64 d.left, .bool d.stop] 25)) 25 [.slice none 0 0, .slice none 0 0, .int .i64 0, .bool false])
  rw [World.size_alloc] at HV
  have HBW : Below w.heap.size w ((w.alloc (.cells #[.slice A d.secs.length c, .slice A' d.pend.length c', .int .i64 d.left, .bool d.stop] 25)).alloc (.cells #[.slice none 0 0, .slice none 0 0, .int .i64 0, .bool false] 25)) := below_box (below_box (Below.refl _ _) _) _
  obtain ⟨⟨f1, f2, f3, f4⟩, _⟩ := HB.out.facts4
  go_enter Try.func19, Try.ntmps19
  go_wp2_with fail
  refine (runs_as HR.out (Kd.old H.out HBW)).mono ?_
  rintro e w1 ⟨rfl, hb1⟩
  obtain ⟨⟨e1, e2, e3, e4⟩, _⟩ := (HB.out.below hb1).facts4
  go_wp2_with fail
  refine (has_as HH.out (Kd.old H.out (below_then HBW hb1)) HI.out).mono ?_
  rintro e w2 ⟨rfl, hb2⟩
  obtain ⟨⟨g1, g2, g3, g4⟩, g5, g6, g7, g8⟩ := ((HV.out.below hb1).below hb2).facts4
  go_wp2
  exact dskE_leave rfl ((HV.out.below hb1).below hb2) rfl (kZeroD _ (fun _ => False)) (fun h => h) (below_then (below_then HBW hb1) hb2) (by omega) rfl rfl

/-- A disk in a variable: F: the blocks that it leads to. -/
structure DV (w : World) (F : Foot) (g : Nat) (d : Dsk) (A : Option Addr) (n c : Nat) (A' : Option Addr) (m c' : Nat) (l : Int) (s : Bool) : Prop where
  b : Blk w g 25 [.slice A n c, .slice A' m c', .int .i64 l, .bool s]
  k : kDsk.K w F d [.slice A n c, .slice A' m c', .int .i64 l, .bool s]
section
variable {w w' : World} {F F' : Foot} {g : Nat} {d : Dsk} {A A' : Option Addr} {n c m c' : Nat} {l : Int} {s : Bool}
theorem DV.below (h : DV w F g d A n c A' m c' l s) (hb : Below w.heap.size w w') : DV w' F g d A n c A' m c' l s := ⟨h.b.below hb, Kd.below h.k hb⟩
theorem DV.facts (h : DV w F g d A n c A' m c' l s) : ((w.cell? ⟨g, 0, none⟩ = some (.slice A n c) ∧ w.cell? ⟨g, 1, none⟩ = some (.slice A' m c') ∧ w.cell? ⟨g, 2, none⟩ = some (.int .i64 l) ∧ w.cell? ⟨g, 3, none⟩ = some (.bool s))) := h.b.facts4.1
theorem DV.frozen (h : DV w F g d A n c A' m c' l s) : w.frozen? ⟨g, 0, none⟩ = false ∧ w.frozen? ⟨g, 1, none⟩ = false ∧ w.frozen? ⟨g, 2, none⟩ = false ∧ w.frozen? ⟨g, 3, none⟩ = false := h.b.facts4.2
theorem DV.new (h : kDsk.K w F d [.slice A n c, .slice A' m c', .int .i64 l, .bool s]) : DV (w.alloc (.cells #[.slice A n c, .slice A' m c', .int .i64 l, .bool s] 25)) (Now F w) w.heap.size d A n c A' m c' l s :=
  ⟨Blk.new w 25 [.slice A n c, .slice A' m c', .int .i64 l, .bool s], Kd.below (kd_now h) (below_box (Below.refl _ _) _)⟩
theorem DV.mono (h : DV w F g d A n c A' m c' l s) (hf : ∀ k, F k → k < w.heap.size → F' k) : DV w F' g d A n c A' m c' l s := ⟨h.b, kDsk.mono hf h.k⟩
/-- Another disk is stored into the variable. -/
theorem DV.set {d2 : Dsk} {B B' : Option Addr} {n2 b m2 b' : Nat} {l2 : Int} {s2 : Bool} (h : DV w F g d A n c A' m c' l s) (hk : kDsk.K w F' d2 [.slice B n2 b, .slice B' m2 b', .int .i64 l2, .bool s2]) (hF : ¬ F' g) :
    DV ((((w.setCell ⟨g, 0, none⟩ (.slice B n2 b)).setCell ⟨g, 1, none⟩ (.slice B' m2 b')).setCell ⟨g, 2, none⟩ (.int .i64 l2)).setCell ⟨g, 3, none⟩ (.bool s2)) F' g d2 B n2 b B' m2 b' l2 s2 :=
  ⟨dsk_set4 h.b rfl _ _ _ _, kd_set4 hk hF _ _ _ _⟩
theorem kDsk_parts {cs : List Value} (h : kDsk.K w F d cs) : ∃ A n c A' m c' l s, cs = [.slice A n c, .slice A' m c', .int .i64 l, .bool s] ∧ kDsk.K w F d [.slice A n c, .slice A' m c', .int .i64 l, .bool s] ∧ n = d.secs.length ∧ m = d.pend.length ∧ l = d.left ∧ s = d.stop := by
  obtain ⟨A, c, A', c', rfl, _, _, _⟩ := kDsk_open h
  exact ⟨A, _, c, A', _, c', _, _, rfl, h, rfl, rfl, rfl, rfl⟩
end
/-- make([]byte, 129). -/
def z129 : List Value := (List.replicate 129 (0 : UInt8)).map (fun b => Value.int .u8 (b.toNat : Int))
theorem make129 (w : World) : (Instr.makeSlice 35 (.int .i64 129) (.int .i64 129)).run Try.prog w = .ok (.slice (some ⟨w.heap.size, 0, none⟩) 129 129) (w.alloc (.cells z129.toArray 5)) := by
  obtain ⟨i, hi, h0, h1, h2⟩ := info_parts info_u8
  have := run_make (P := Try.prog) w 35 5 i _ Try.underlying35 hi h0 .i64 .i64 129 129 (by decide) (by decide) (by rw [h2]; decide) (by decide)
  rw [this, h1]
  show _ = Result.ok _ (w.alloc (.cells z129.toArray 5))
  unfold z129
  rw [← zeros_cells]
  rfl
end Go.Proofs.Ytmcdimcjmafaoaa.B
