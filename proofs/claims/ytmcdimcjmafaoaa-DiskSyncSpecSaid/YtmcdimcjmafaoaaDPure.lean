/- Plain laws of disks: what a write, a sync and a restart do to what is read. -/
import Derived.Test.YtmcdimcjmafaoaaDiskRead
namespace Go.Proofs.Ytmcdimcjmafaoaa.B
set_option linter.unusedVariables false
set_option linter.unusedSimpArgs false
open Go.RowKit

theorem valid_iff (d : Dsk) : d.valid = true ↔ (1 ≤ d.secs.length ∧ d.secs.length ≤ 4096 ∧ d.pend.length ≤ 4096 ∧ -1 ≤ d.left ∧ d.left ≤ 65536 ∧ (∀ x ∈ d.pend, 0 ≤ x.pos ∧ x.pos < (d.secs.length : Int) ∧ x.data.length = 128) ∧ ∀ b ∈ d.secs, b.length = 128) := by
  constructor
  · intro h
    have f := valid_facts h
    exact ⟨f.1, f.2.1, f.2.2.1, f.2.2.2.1, f.2.2.2.2, valid_wr h, valid_sec h⟩
  · rintro ⟨h1, h2, h3, h4, h5, h6, h7⟩
    refine valid_true ⟨h1, h2, h3, h4, h5, List.all_eq_true.2 fun x hx => ?_, List.all_eq_true.2 fun b hb => ?_⟩
    · obtain ⟨a1, a2, a3⟩ := h6 x hx
      unfold okWr okSec
      simp [a1, a2, a3]
    · unfold okSec; simp [h7 b hb]
theorem runs_iff (d : Dsk) : d.runs = true ↔ d.valid = true ∧ d.stop = false := by
  unfold Dsk.runs
  cases d.valid <;> cases d.stop <;> simp
theorem has_iff (d : Dsk) (p : Int) : d.has p = true ↔ 0 ≤ p ∧ p < (d.secs.length : Int) := by unfold Dsk.has; simp
theorem readE_ok {d : Dsk} {p : Int} : readE d p = 0 ↔ d.runs = true ∧ d.has p = true := by
  unfold readE
  cases d.runs <;> cases d.has p <;> simp
theorem readE_cases (d : Dsk) (p : Int) : readE d p = 0 ∨ readE d p = 470 := by unfold readE; split <;> simp
theorem writeE_ok {d : Dsk} {p : Int} {b : List UInt8} : writeE d p b = 0 ↔ d.runs = true ∧ d.has p = true ∧ b.length ≤ 128 ∧ d.pend.length ≠ 4096 := by
  unfold writeE
  cases d.runs <;> cases d.has p <;> simp
  split
  · simp; omega
  · split
    · simp; omega
    · simp; omega
theorem writeE_lim {d : Dsk} {p : Int} {b : List UInt8} (hr : d.runs = true) (hh : d.has p = true) (hb : b.length ≤ 128) : writeE d p b = 0 ∨ writeE d p b = 2 := by
  unfold writeE
  rw [hr, hh, Bool.and_true, if_pos rfl, if_neg (by omega)]
  split <;> simp
theorem writeD_eq {d : Dsk} {p : Int} {b : List UInt8} (h : writeE d p b = 0) : writeD d p b = { d with pend := d.pend ++ [⟨p, pad b⟩] } := by unfold writeD; rw [if_pos h]
theorem write_runs {d : Dsk} {p : Int} {b : List UInt8} (h : writeE d p b = 0) : (writeD d p b).runs = true := by
  obtain ⟨h1, h2, h3, h4⟩ := writeE_ok.1 h
  rw [writeD_eq h, runs_iff, valid_iff]
  obtain ⟨hv, hs⟩ := (runs_iff d).1 h1
  obtain ⟨a1, a2, a3, a4, a5, a6, a7⟩ := (valid_iff d).1 hv
  obtain ⟨p1, p2⟩ := (has_iff d p).1 h2
  refine ⟨⟨a1, a2, ?_, a4, a5, ?_, a7⟩, hs⟩
  · show (d.pend ++ [_]).length ≤ 4096
    rw [List.length_append, List.length_singleton]; omega
  · intro x hx
    rcases List.mem_append.1 hx with hx | hx
    · exact a6 x hx
    · rw [List.mem_singleton.1 hx]; exact ⟨p1, p2, length_pad h3⟩
theorem lastAt_snoc (p : Int) (l : List Wr) (x : Wr) (b : List UInt8) : lastAt p (l ++ [x]) b = if x.pos = p then x.data else lastAt p l b := by unfold lastAt; rw [List.foldl_append]; rfl
theorem readD_eq {d : Dsk} {p : Int} (h : readE d p = 0) : readD d p = lastAt p d.pend (d.secs.getD p.toNat []) := by
  obtain ⟨h1, h2⟩ := readE_ok.1 h
  unfold readD; rw [h1, h2]; rfl
theorem write_has {d : Dsk} {p q : Int} {b : List UInt8} (h : writeE d p b = 0) : (writeD d p b).has q = d.has q := by rw [writeD_eq h]; rfl
theorem write_readE {d : Dsk} {p q : Int} {b : List UInt8} (h : writeE d p b = 0) (hq : d.has q = true) : readE (writeD d p b) q = 0 := readE_ok.2 ⟨write_runs h, by rw [write_has h]; exact hq⟩
theorem write_read {d : Dsk} {p q : Int} {b : List UInt8} (h : writeE d p b = 0) (hq : d.has q = true) : readD (writeD d p b) q = if p = q then pad b else readD d q := by
  have hr := (writeE_ok.1 h).1
  rw [readD_eq (write_readE h hq), readD_eq (readE_ok.2 ⟨hr, hq⟩), writeD_eq h]
  exact lastAt_snoc q d.pend ⟨p, pad b⟩ _
theorem pad_take (b : List UInt8) : (pad b).take b.length = b := by unfold pad; rw [List.take_left]
/-- What has been performed is what was read. -/
theorem performD_get {l : List Wr} : ∀ {s : List (List UInt8)} {k : Nat}, (∀ x ∈ l, 0 ≤ x.pos ∧ x.pos < (s.length : Int)) → k < s.length → (performD l s).getD k [] = lastAt (k : Int) l (s.getD k []) := by
  induction l with
  | nil => intro s k _ _; rfl
  | cons x r ih =>
    intro s k h hk
    obtain ⟨h0, h1⟩ := h x (List.mem_cons_self ..)
    show (performD r (s.set x.pos.toNat x.data)).getD k [] = lastAt (k : Int) r (if x.pos = (k : Int) then x.data else s.getD k [])
    rw [ih (fun y hy => by rw [List.length_set]; exact h y (List.mem_cons_of_mem _ hy)) (by rw [List.length_set]; exact hk)]
    congr 1
    by_cases e : x.pos = (k : Int)
    · rw [if_pos e, show x.pos.toNat = k by omega, List.getD_eq_getElem?_getD, List.getElem?_set_self hk]; rfl
    · rw [if_neg e, List.getD_eq_getElem?_getD, List.getD_eq_getElem?_getD, List.getElem?_set_ne (by omega)]
theorem syncE_ok {d : Dsk} : syncE d = 0 ↔ d.runs = true ∧ d.stops = false := by
  unfold syncE
  cases d.runs <;> cases d.stops <;> simp
theorem stops_iff (d : Dsk) : d.stops = true ↔ 0 ≤ d.left ∧ d.left < (d.pend.length : Int) := by unfold Dsk.stops; simp
theorem sync_runs {d : Dsk} (h : syncE d = 0) : (syncD d).runs = true := by
  obtain ⟨h1, h2⟩ := syncE_ok.1 h
  rw [(sync_ok h1 h2).2, runs_iff, valid_iff]
  obtain ⟨hv, hs⟩ := (runs_iff d).1 h1
  obtain ⟨a1, a2, a3, a4, a5, a6, a7⟩ := (valid_iff d).1 hv
  have hst : ¬ (0 ≤ d.left ∧ d.left < (d.pend.length : Int)) := fun e => by rw [(stops_iff d).2 e] at h2; cases h2
  refine ⟨⟨?_, ?_, Nat.zero_le _, ?_, ?_, fun x hx => (by cases hx), ?_⟩, rfl⟩
  · show 1 ≤ (performD d.pend d.secs).length; rw [length_performD]; exact a1
  · show (performD d.pend d.secs).length ≤ 4096; rw [length_performD]; exact a2
  · show -1 ≤ (if 0 ≤ d.left then d.left - d.pend.length else d.left); split <;> omega
  · show (if 0 ≤ d.left then d.left - d.pend.length else d.left) ≤ 65536; split <;> omega
  · exact performD_mem a7 (fun x hx => (a6 x hx).2.2)
theorem sync_read {d : Dsk} (h : syncE d = 0) {k : Nat} (hk : k < d.secs.length) : readE d k = 0 ∧ readE (syncD d) k = 0 ∧ readD (syncD d) k = readD d k := by
  obtain ⟨h1, h2⟩ := syncE_ok.1 h
  obtain ⟨a1, a2, a3, a4, a5, a6, a7⟩ := (valid_iff d).1 ((runs_iff d).1 h1).1
  have e1 : readE d k = 0 := readE_ok.2 ⟨h1, (has_iff d k).2 ⟨by omega, by omega⟩⟩
  have hl : (syncD d).secs.length = d.secs.length := by rw [(sync_ok h1 h2).2]; exact length_performD _ _
  have e2 : readE (syncD d) k = 0 := readE_ok.2 ⟨sync_runs h, (has_iff _ _).2 ⟨by omega, by rw [hl]; omega⟩⟩
  refine ⟨e1, e2, ?_⟩
  rw [readD_eq e1, readD_eq e2, (sync_ok h1 h2).2]
  show (performD d.pend d.secs).getD ((k : Int)).toNat [] = _
  rw [Int.toNat_natCast]
  exact performD_get (fun x hx => ⟨(a6 x hx).1, (a6 x hx).2.1⟩) hk
theorem sync_stop {d : Dsk} (hr : d.runs = true) (h : syncE d ≠ 0) : syncE d = 470 ∧ (syncD d).stop = true := by
  cases hs : d.stops
  · exact absurd (syncE_ok.2 ⟨hr, hs⟩) h
  · exact ⟨(sync_torn hr hs).1, by rw [(sync_torn hr hs).2]⟩
theorem sync_pend {d : Dsk} : (syncD d).pend = [] := by unfold syncD; split <;> (try split) <;> rfl
theorem read_len {d : Dsk} {p : Int} (h : readE d p = 0) : (readD d p).length = 128 := by
  obtain ⟨h1, h2⟩ := readE_ok.1 h
  obtain ⟨a1, a2, a3, a4, a5, a6, a7⟩ := (valid_iff d).1 ((runs_iff d).1 h1).1
  obtain ⟨p1, p2⟩ := (has_iff d p).1 h2
  rw [readD_eq h]
  have h0 : (d.secs.getD p.toNat []).length = 128 := by
    rw [List.getD_eq_getElem?_getD, List.getElem?_eq_getElem (by omega)]
    exact a7 _ (List.getElem_mem _)
  generalize d.secs.getD p.toNat [] = b at h0 ⊢
  have : ∀ (l : List Wr) (b : List UInt8), (∀ x ∈ l, x.data.length = 128) → b.length = 128 → (lastAt p l b).length = 128 := by
    intro l
    induction l with
    | nil => intro b _ h; exact h
    | cons x r ih =>
      intro b hx hb
      show (lastAt p r (if x.pos = p then x.data else b)).length = 128
      refine ih _ (fun y hy => hx y (List.mem_cons_of_mem _ hy)) ?_
      split
      · exact hx x (List.mem_cons_self ..)
      · exact hb
  exact this _ _ (fun x hx => (a6 x hx).2.2) h0
end Go.Proofs.Ytmcdimcjmafaoaa.B
