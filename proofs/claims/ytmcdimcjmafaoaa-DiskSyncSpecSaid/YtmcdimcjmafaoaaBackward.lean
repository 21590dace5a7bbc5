/- slices.Backward over a list of writes: an iterator; what its rounds are handed. -/
import Derived.Test.YtmcdimcjmafaoaaDiskD
import Derived.Deep.Slices
import Derived.RangeFuncNested
import Derived.RangeFuncBound
import Derived.RangeFuncCalls
import Derived.RangeFuncLeaves
import Derived.Shelf.Abstract
import Derived.Shelf.RegionOpen
import Derived.OwnWalkIn
import Derived.TacticsInMore
import Derived.LoopNIn
import Derived.LoopIn
namespace Go.Proofs.Ytmcdimcjmafaoaa.B
set_option linter.unusedVariables false
set_option linter.unusedSimpArgs false
open Go.RowKit Go.Shelf
attribute [local go_sem] Oper.semAt_some

def noWr : Wr := ⟨0, []⟩
/-- The cells of a list of writes, each by its index. -/
theorem wr_all {w : World} {F : Foot} {A : Option Addr} {c : Nat} {xs : List Wr} (h : SL kWr w F A c xs) :
    ∃ (V : Nat → Option Addr) (C : Nat → Nat), ∀ i (hi : i < xs.length), (∃ ad, A = some ad ∧ ad.block < w.heap.size ∧ w.cell? (ad.add (i * 2)) = some (.int .i64 xs[i].pos) ∧ w.cell? ⟨(ad.add (i * 2)).block, (ad.add (i * 2)).off + 1, none⟩ = some (.slice (V i) xs[i].data.length (C i))) ∧ SL kU8 w F (V i) (C i) xs[i].data := by
  have key : ∀ i, i < xs.length → ∃ v : Option Addr × Nat, ∀ (hi : i < xs.length), (∃ ad, A = some ad ∧ ad.block < w.heap.size ∧ w.cell? (ad.add (i * 2)) = some (.int .i64 xs[i].pos) ∧ w.cell? ⟨(ad.add (i * 2)).block, (ad.add (i * 2)).off + 1, none⟩ = some (.slice v.1 xs[i].data.length v.2)) ∧ SL kU8 w F v.1 v.2 xs[i].data := by
    intro i hi
    obtain ⟨ad, A', c', hA, h1, h2, _, h3⟩ := wr_at h hi
    have hlt := World.block_lt_of_cell? w _ h1
    rw [block_add] at hlt
    exact ⟨(A', c'), fun _ => ⟨⟨ad, hA, hlt, h1, h2⟩, h3⟩⟩
  have : Inhabited (Option Addr × Nat) := ⟨(none, 0)⟩
  obtain ⟨V, hV⟩ := Deep.choose_lt (α := Option Addr × Nat) (p := fun i v => ∀ (hi : i < xs.length), (∃ ad, A = some ad ∧ ad.block < w.heap.size ∧ w.cell? (ad.add (i * 2)) = some (.int .i64 xs[i].pos) ∧ w.cell? ⟨(ad.add (i * 2)).block, (ad.add (i * 2)).off + 1, none⟩ = some (.slice v.1 xs[i].data.length v.2)) ∧ SL kU8 w F v.1 v.2 xs[i].data) key
  exact ⟨fun i => (V i).1, fun i => (V i).2, fun i hi => hV i hi hi⟩
/-- What has come when k rounds are over: n - 1, .., n - k. -/
def downto (n k : Nat) : List Nat := (List.range k).map fun j => n - 1 - j
theorem downto_succ (n k : Nat) : downto n (k + 1) = downto n k ++ [n - 1 - k] := by simp [downto, List.range_succ]
theorem downto_length (n k : Nat) : (downto n k).length = k := by simp [downto]
def bwEnc (P : Nat → Int) (L : Nat → Nat) (V : Nat → Option Addr) (C : Nat → Nat) (i : Nat) : Array Value := #[.int .i64 (i : Int), .agg #[.int .i64 (P i), .slice (V i) (L i) (C i)]]

set_option maxRecDepth 100000 in
theorem backward_calls {w : World} {A : Option Addr} {n c : Nat} :
    Calls Try.prog 39 #[.slice A n c] w fun e w' => e = .returned (.func (.func 45) #[] #[.pointer (some ⟨w.heap.size, 0, none⟩)]) ∧ w' = w.alloc (.cells #[.slice A n c] 23) := by
  have hmf : ∀ (fn : Fn) (first cap : Array Value) (w : World), (Instr.makeFunc fn first cap).run Try.prog w = .ok (.func fn first cap) w := fun _ _ _ _ => rfl
  go_enter Try.func39, Try.ntmps39
  go_wp2
  go_ret
  exact ⟨rfl, rfl⟩
set_option maxRecDepth 100000 in
set_option maxHeartbeats 2000000 in
/-- The iterator's rounds, the last write first. -/
theorem backward1_in (F : Fence) (n : Nat) (hf : F.fn 45) (hro : F.round = none) (hn : 1 ≤ n) (l Bs n₀ len cap : Nat) (ad : Addr) (P : Nat → Int) (L : Nat → Nat) (V : Nat → Option Addr) (C : Nat → Nat) (hlen : len ≤ 4611686018427387904) (hb : ad.block < n₀) (hBn : Bs < n₀) (J Jx : List Nat → World → Prop)
    (hY : ∀ pre x W, J pre W → pre.length < len → YieldAt F (n - 1) Try.prog l (bwEnc P L V C x) W fun e W' =>
      (e = .returned (.bool true) ∧ J (pre ++ [x]) W' ∧ Below n₀ W W') ∨ (e = .returned (.bool false) ∧ Jx (pre ++ [x]) W'))
    (W : World) (hBs : W.cell? ⟨Bs, 0, none⟩ = some (.slice (some ad) len cap))
    (hc : ∀ i, i < len → W.cell? (ad.add (i * 2)) = some (.int .i64 (P i)) ∧ W.cell? ⟨(ad.add (i * 2)).block, (ad.add (i * 2)).off + 1, none⟩ = some (.slice (V i) (L i) (C i))) (h0 : J [] W) :
    CallsIn F n Try.prog 45 #[.func (.yield l) #[] #[], .pointer (some ⟨Bs, 0, none⟩)] W fun e W' => (∃ v, e = .returned v) ∧
      ((∃ ys, ys = downto len len ∧ J ys W') ∨ (∃ pre, (∃ k, k ≤ len ∧ pre = downto len k) ∧ Jx pre W')) := by
  refine callsIn_of_wp Try.func45 rfl hf ?_ hro
  simp only [Try.ntmps45, List.size_toArray, List.length_cons, List.length_nil, Nat.reduceAdd, Nat.reduceSub, Array.replicate_succ, Array.replicate_zero, List.push_toArray, List.append_toArray, List.nil_append, List.cons_append]
  have HC := Lib.hid hc
  clear hc
  gi_wp2
  gi_loopw [3] (fun i wr => ∃ m : Nat, m ≤ len ∧ i = .int .i64 ((m : Int) - 1) ∧ J (downto len (len - m)) wr ∧ Below n₀ W wr)
    (fun i _ => (intOf i + 1).toNat)
  case atStart => exact ⟨len, Nat.le_refl _, rfl, by rw [Nat.sub_self]; exact h0, Below.refl _ _⟩
  case round =>
    obtain ⟨m, hm, rfl, hJs, hnx⟩ := hrel
    have hBs' : wr.cell? ⟨Bs, 0, none⟩ = some (.slice (some ad) len cap) := (hnx.cell (p := ⟨Bs, 0, none⟩) hBn).trans hBs
    cases m with
    | zero =>
      have e0 : ((0 : Nat) : Int) - 1 = -1 := rfl
      rw [e0]
      gi_wp2
      go_end0
      exact ⟨⟨_, rfl⟩, .inl ⟨_, rfl, hJs⟩⟩
    | succ m =>
      have e1 : ((m + 1 : Nat) : Int) - 1 = (m : Int) := by omega
      rw [e1]
      obtain ⟨fn, tmps, assign, body, hy, hR⟩ := hY _ m wr hJs (by rw [downto_length]; omega)
      unfold bwEnc at hy
      have hcm := HC.out m (by omega)
      have c0 := (hnx.cell (p := ad.add (m * 2)) (by rw [block_add]; exact hb)).trans hcm.1
      have c1 := (hnx.cell (p := ⟨(ad.add (m * 2)).block, (ad.add (m * 2)).off + 1, none⟩) (by show (ad.add (m * 2)).block < n₀; rw [block_add]; exact hb)).trans hcm.2
      have hmi : (0 : Int) ≤ (m : Int) := by omega
      have hml : (m : Int) < (len : Int) := by omega
      have HD : Hid (downto len (len - (m + 1)) ++ [m] = downto len (len - m)) := by
        show _ = _
        rw [show len - m = len - (m + 1) + 1 by omega, downto_succ]; congr 2; omega
      clear e1 hcm
      gi_wp2
      refine hR.mono ?_
      rintro e W3 (⟨rfl, hJ3, hk3⟩ | ⟨rfl, hJx3⟩)
      · gi_wp2
        go_roundw
        case rel => exact ⟨m, by omega, rfl, by rw [← HD.out]; exact hJ3, hnx.trans hk3⟩
        case measure => simp [intOf]
      · gi_wp2
        refine bodyPost_ret (results_none rfl _ _ _) rfl ?_
        exact ⟨⟨_, rfl⟩, .inr ⟨_, ⟨len - m, by omega, HD.out⟩, hJx3⟩⟩
set_option maxRecDepth 100000 in
set_option maxHeartbeats 1000000 in
theorem backward1_nil_in (F : Fence) (n : Nat) (hf : F.fn 45) (hro : F.round = none) (l Bs cap : Nat) (A : Option Addr) (J : List Nat → World → Prop) (W : World) (hBs : W.cell? ⟨Bs, 0, none⟩ = some (.slice A 0 cap)) (h0 : J [] W) :
    CallsIn F n Try.prog 45 #[.func (.yield l) #[] #[], .pointer (some ⟨Bs, 0, none⟩)] W fun e W' => (∃ v, e = .returned v) ∧ J [] W' := by
  refine callsIn_of_wp Try.func45 rfl hf ?_ hro
  simp only [Try.ntmps45, List.size_toArray, List.length_cons, List.length_nil, Nat.reduceAdd, Nat.reduceSub, Array.replicate_succ, Array.replicate_zero, List.push_toArray, List.append_toArray, List.nil_append, List.cons_append]
  gi_wp2
  gi_loopw [3] (fun i wr => i = .int .i64 (-1) ∧ J [] wr) (fun _ _ => 0)
  case atStart => exact ⟨rfl, h0⟩
  case round =>
    obtain ⟨rfl, hJs⟩ := hrel
    gi_wp2
    go_end0
    exact ⟨⟨_, rfl⟩, hJs⟩
/-- slices.Backward(l) hands back a value that runs over l from its end, as long as the rounds say 'more'. -/
theorem backward_stops (F : Fence) (n : Nat) (hf : F.fn 45) (hro : F.round = none) (hn : 1 ≤ n) (Bs n₀ cap : Nat) (A : Option Addr) (len : Nat) (P : Nat → Int) (L : Nat → Nat) (V : Nat → Option Addr) (C : Nat → Nat) (hlen : len ≤ 4611686018427387904) (w : World) (hBs : Bs < n₀) (hn₀ : n₀ ≤ w.heap.size)
    (hc : w.cell? ⟨Bs, 0, none⟩ = some (.slice A len cap))
    (hI : ∀ i, i < len → ∃ ad, A = some ad ∧ ad.block < n₀ ∧ w.cell? (ad.add (i * 2)) = some (.int .i64 (P i)) ∧ w.cell? ⟨(ad.add (i * 2)).block, (ad.add (i * 2)).off + 1, none⟩ = some (.slice (V i) (L i) (C i))) :
    SeqStopsK F n Try.prog 45 #[.pointer (some ⟨Bs, 0, none⟩)] (bwEnc P L V C) (Below n₀) (fun ys => ys = downto len len) (fun pre => ∃ k, k ≤ len ∧ pre = downto len k) len w := fun l J Jx W hW _ _ hY h0 => by
  have hW' := hW.mono hn₀
  have hc' := (hW'.cell (p := ⟨Bs, 0, none⟩) hBs).trans hc
  rcases Nat.eq_zero_or_pos len with rfl | hpos
  · exact (backward1_nil_in F n hf hro l Bs cap A J W hc' h0).mono fun e W' ⟨he, hj⟩ => ⟨he, .inl ⟨_, rfl, hj⟩⟩
  · obtain ⟨ad, rfl, hb, _⟩ := hI 0 hpos
    refine backward1_in F n hf hro hn l Bs n₀ len cap ad P L V C hlen hb hBs J Jx hY W hc' (fun i hi => ?_) h0
    obtain ⟨ad', e, hb', h1, h2⟩ := hI i hi
    injection e with e
    subst e
    exact ⟨(hW'.cell (p := ad.add (i * 2)) (by rw [block_add]; exact hb)).trans h1, (hW'.cell (p := ⟨(ad.add (i * 2)).block, (ad.add (i * 2)).off + 1, none⟩) (by show (ad.add (i * 2)).block < n₀; rw [block_add]; exact hb)).trans h2⟩
end Go.Proofs.Ytmcdimcjmafaoaa.B
