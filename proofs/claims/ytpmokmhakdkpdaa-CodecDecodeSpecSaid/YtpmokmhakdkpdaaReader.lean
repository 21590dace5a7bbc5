import Derived.Test.YtpmokmhakdkpdaaSigned
import Derived.Test.YtpmokmhakdkpdaaOwn
import Derived.Test.YtpmokmhakdkpdaaReadPure
import Derived.WalkLawsBesides
import Derived.Deep.LoopGhost
import Derived.Deep.DeepCutAuto
namespace Go.Proofs.Ytpmokmhakdkpdaa.B
open Go.RowKit

/-- The reader at block g: what is left to be read. -/
structure Rd (w : World) (g : Nat) (F : Foot) (rest : List UInt8) : Prop where
  at_ : ∃ A c, w.heap[g]? = some (.cells #[.slice A rest.length c] 58 (0, 0)) ∧ SL kU8 w F A c rest
  not : ¬ F g
theorem Rd.lt {w : World} {g : Nat} {F : Foot} {rest : List UInt8} (h : Rd w g F rest) : g < w.heap.size := by
  obtain ⟨A, c, h, _⟩ := h.at_
  exact (Array.getElem?_eq_some_iff.1 h).1
theorem Rd.move {w w' : World} {g : Nat} {F : Foot} {rest : List UInt8} (h : Rd w g F rest) (hm : ∀ k, (F k ∨ k = g) → k < w.heap.size → w'.heap[k]? = w.heap[k]?) (hs : w.heap.size ≤ w'.heap.size) : Rd w' g F rest := by
  have hlt := h.lt
  obtain ⟨⟨A, c, h1, h2⟩, hn⟩ := h
  exact ⟨⟨A, c, (hm g (.inr rfl) hlt).trans h1, h2.move (fun k hk hl => hm k (.inl hk) hl) hs⟩, hn⟩
theorem Rd.below {w w' : World} {g : Nat} {F : Foot} {rest : List UInt8} (h : Rd w g F rest) (hb : Below w.heap.size w w') : Rd w' g F rest := h.move (fun k _ hl => hb.block k hl) hb.size
theorem Rd.set {w : World} {g : Nat} {F : Foot} {rest rest' : List UInt8} {A' : Option Addr} {c' m : Nat} (h : Rd w g F rest) (hs : SL kU8 w F A' c' rest') (hm : rest'.length = m) : Rd (w.setCell ⟨g, 0, none⟩ (.slice A' m c')) g F rest' := by
  subst hm
  obtain ⟨⟨A, c, h1, h2⟩, hn⟩ := h
  refine ⟨⟨A', c', ?_, ?_⟩, hn⟩
  · simp [World.setCell, Array.getElem?_modify, h1]
  · exact hs.move (fun k hk _ => Below.heap_setCell _ _ _ _ (fun e => hn (by subst e; exact hk))) (by simp [World.setCell])
theorem sl_set {w : World} {g : Nat} {F : Foot} {xs : List UInt8} {A : Option Addr} {c : Nat} {u : Value} (h : SL kU8 w F A c xs) (hF : ¬ F g) : SL kU8 (w.setCell ⟨g, 0, none⟩ u) F A c xs :=
  h.move (fun k hk _ => Below.heap_setCell _ _ _ _ (fun e => hF (by subst e; exact hk))) (by simp [World.setCell])
theorem grown_set (w : World) (g : Nat) (u : Value) : w.grownBy (w.setCell ⟨g, 0, none⟩ u) (some g) := ⟨rfl, rfl, rfl, by simp [World.setCell], fun k _ hne => Below.heap_setCell _ _ _ _ (fun e => hne (by rw [e]))⟩
theorem grown_trans {w w1 w2 : World} {g : Nat} (h : w.grownBy w1 (some g)) (h' : w1.grownBy w2 (some g)) : w.grownBy w2 (some g) := World.grownBy.trans h h'
theorem grown_below {w w1 : World} {g : Nat} (h : Below w.heap.size w w1) : w.grownBy w1 (some g) := ⟨h.os, h.tape, h.output, h.size, fun k hk _ => h.block k hk⟩
/-- The error that the reader panics with. -/
def codeErr : List PanicEntry := [{ v := .iface 28 (.int .i64 10), recovered := false }]

set_option maxRecDepth 100000 in
theorem want_ok {w : World} {p : Value} : Calls Try.prog 33 #[p, .bool true] w fun e w' => e = .returned (.tuple #[]) ∧ w = w' := by
  go_enter Try.func33, Try.ntmps33
  go_wp2
  go_end0
  exact ⟨rfl, rfl⟩
set_option maxRecDepth 100000 in
theorem want_bad {w : World} {p : Value} : Calls Try.prog 33 #[p, .bool false] w fun e w' => e = .panicked codeErr ∧ w = w' := by
  go_enter Try.func33, Try.ntmps33
  go_wp2
  exact ⟨rfl, rfl, rfl⟩

theorem want_no {w : World} {p : Value} {b : Bool} (hb : b = false) : Calls Try.prog 33 #[p, .bool b] w fun e w' => e = .panicked codeErr ∧ w = w' := by subst hb; exact want_bad
theorem want_yes {w : World} {p : Value} {b : Bool} (hb : b = true) : Calls Try.prog 33 #[p, .bool b] w fun e w' => e = .returned (.tuple #[]) ∧ w = w' := by subst hb; exact want_ok

/-- What a reading function does: it hands back what the parser tells, or panics where the parser tells nothing. -/
def ReadsTo {α : Type} (w : World) (g : Nat) (F : Foot) (r : Option (α × List UInt8)) (R : α → World → Value → Prop) (e : Ending) (w' : World) : Prop :=
  w.grownBy w' (some g) ∧ match r with
    | some (x, rest) => ∃ v, e = .returned v ∧ R x w' v ∧ Rd w' g F rest
    | none => e = .panicked codeErr
theorem ReadsTo.ok {α : Type} {w w' : World} {g : Nat} {F : Foot} {R : α → World → Value → Prop} {x : α} {rest : List UInt8} {v : Value} (h : w.grownBy w' (some g)) (hR : R x w' v) (hr : Rd w' g F rest) : ReadsTo w g F (some (x, rest)) R (.returned v) w' := ⟨h, v, rfl, hR, hr⟩
theorem ReadsTo.bad {α : Type} {w w' : World} {g : Nat} {F : Foot} {R : α → World → Value → Prop} (h : w.grownBy w' (some g)) : ReadsTo w g F (none : Option (α × List UInt8)) R (.panicked codeErr) w' := ⟨h, rfl⟩

set_option maxRecDepth 100000 in
set_option maxHeartbeats 1000000 in
/-- take(n): the first n bytes. -/
theorem take_calls {w : World} {g : Nat} {F : Foot} {rest : List UInt8} (h : Rd w g F rest) {n : Nat} (hn : n < 9223372036854775808) :
    Calls Try.prog 44 #[.pointer (some ⟨g, 0, none⟩), .int .i64 n] w
      (ReadsTo w g F (if n ≤ rest.length then some (rest.take n, rest.drop n) else none) fun x w' v => ∃ A c, v = .slice A x.length c ∧ SL kU8 w' F A c x) := by
  have hlt := h.lt
  obtain ⟨⟨A, c, hg, hs⟩, hF⟩ := h
  have hcell : w.cell? ⟨g, 0, none⟩ = some (.slice A rest.length c) := by simp [World.cell?, hg]
  have hfz : w.frozen? ⟨g, 0, none⟩ = false := by simp [World.frozen?, hg]
  have hle := hs.le
  have hmax := hs.max
  unfold maxLen at hmax
  have Hn := Lib.hid hn
  have HS := Lib.hid hs
  have HG := Lib.hid hg
  clear hn hs hg
  have HR : Hid (Rd w g F rest) := ⟨⟨A, c, HG.out, HS.out⟩, hF⟩
  clear hF HG
  by_cases hl : n ≤ rest.length
  · rw [if_pos hl]
    have h1 := Lib.hid (HS.out.take hl (Nat.le_refl n) (Nat.le_trans hl hle))
    have h2 := HS.out.drop hl
    by_cases hc : c = n
    · rw [if_pos hc] at h2
      have H2 := Lib.hid h2
      clear h2
      go_enter Try.func44, Try.ntmps44
      go_wp2_with (go_at_call 33; refine want_ok.mono ?_; rintro e w1 ⟨rfl, rfl⟩)
      go_ret
      exact ReadsTo.ok (grown_set _ _ _) ⟨A, n, by rw [List.length_take_of_le hl]; rfl, sl_set h1.out HR.out.not⟩ (Rd.set HR.out (by have := H2.out; rwa [hc, Nat.sub_self] at this) List.length_drop)
    · rw [if_neg hc] at h2
      have H2 := Lib.hid h2
      clear h2
      go_enter Try.func44, Try.ntmps44
      go_wp2_with (go_at_call 33; refine want_ok.mono ?_; rintro e w1 ⟨rfl, rfl⟩)
      go_ret
      exact ReadsTo.ok (grown_set _ _ _) ⟨A, n, by rw [List.length_take_of_le hl]; rfl, sl_set h1.out HR.out.not⟩ (Rd.set HR.out (by have := H2.out; rwa [show kU8.sz = 1 from rfl, show n * 1 = n from Nat.mul_one n] at this) List.length_drop)
  · rw [if_neg hl]
    go_enter Try.func44, Try.ntmps44
    go_wp2_with (go_at_call 33; refine want_bad.mono ?_; rintro e w1 ⟨rfl, rfl⟩)
    exact ⟨rfl, ReadsTo.bad (grown_below (Below.refl _ _))⟩
theorem take1_nil {w : World} {g : Nat} {F : Foot} (h : Rd w g F []) :
    Calls Try.prog 44 #[.pointer (some ⟨g, 0, none⟩), .int .i64 (1 : Nat)] w fun e w' => e = .panicked codeErr ∧ w.grownBy w' (some g) := by
  refine (take_calls h (n := 1) (by decide)).mono ?_
  rintro e w1 ⟨hg, he⟩
  exact ⟨he, hg⟩
theorem take1_cons {w : World} {g : Nat} {F : Foot} {c : UInt8} {r : List UInt8} (h : Rd w g F (c :: r)) :
    Calls Try.prog 44 #[.pointer (some ⟨g, 0, none⟩), .int .i64 (1 : Nat)] w fun e w' => ∃ ad cap, e = .returned (.slice (some ad) 1 cap) ∧ w'.cell? ad = some (.int .u8 c.toNat) ∧ w.grownBy w' (some g) ∧ Rd w' g F r := by
  refine (take_calls h (n := 1) (by decide)).mono ?_
  rintro e w1 ⟨hg, he⟩
  rw [if_pos (by simp)] at he
  obtain ⟨v, rfl, ⟨A, cap, rfl, hs⟩, hr⟩ := he
  obtain ⟨ad, rfl, hc⟩ := hs.byte (i := 0) (by simp)
  exact ⟨ad, cap, rfl, by simpa [Addr.add] using hc, hg, by simpa using hr⟩
end Go.Proofs.Ytpmokmhakdkpdaa.B
