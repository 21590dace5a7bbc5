/- Plain law: syncing behind each write, or once behind them all, leads to one disk. -/
import Derived.Test.YtmcdimcjmafaoaaDPure
namespace Go.Proofs.Ytmcdimcjmafaoaa.B
set_option linter.unusedVariables false
set_option linter.unusedSimpArgs false
open Go.RowKit

structure ActM where
  sync : Bool
  pos : UInt8
  byte : UInt8
def actAt (n : Nat) (a : ActM) : Int := ((a.pos.toNat % n : Nat) : Int)
def oneStep (n : Nat) (s : Dsk × Int) (a : ActM) : Dsk × Int :=
  if s.2 = 0 then (syncD (writeD s.1 (actAt n a) [a.byte]), syncE (writeD s.1 (actAt n a) [a.byte])) else s
def oneD (n : Nat) (d : Dsk) (l : List ActM) : Dsk × Int := l.foldl (oneStep n) (d, 0)
def manyD (n : Nat) (d : Dsk) (l : List ActM) : Dsk := l.foldl (fun s a => writeD s (actAt n a) [a.byte]) d
def actWr (n : Nat) (a : ActM) : Wr := ⟨actAt n a, pad [a.byte]⟩
theorem act_has {d : Dsk} {n : Nat} (hn : n = d.secs.length) (h1 : 1 ≤ n) (a : ActM) : d.has (actAt n a) = true := by
  rw [has_iff, ← hn]
  unfold actAt
  have := Nat.mod_lt a.pos.toNat (show n > 0 by omega)
  omega
theorem act_write {d : Dsk} {n : Nat} (hr : d.runs = true) (hn : n = d.secs.length) (h1 : 1 ≤ n) (hp : d.pend.length < 4096) (a : ActM) : writeE d (actAt n a) [a.byte] = 0 ∧ writeD d (actAt n a) [a.byte] = ⟨d.secs, d.pend ++ [actWr n a], d.left, d.stop⟩ := by
  have h : writeE d (actAt n a) [a.byte] = 0 := writeE_ok.2 ⟨hr, act_has hn h1 a, by simp, by omega⟩
  exact ⟨h, writeD_eq h⟩
theorem many_eq {n : Nat} (l : List ActM) : ∀ (d : Dsk), d.runs = true → n = d.secs.length → 1 ≤ n → d.pend.length + l.length ≤ 4096 → manyD n d l = ⟨d.secs, d.pend ++ l.map (actWr n), d.left, d.stop⟩ ∧ (manyD n d l).runs = true := by
  induction l with
  | nil => intro d hr _ _ _; exact ⟨by simp [manyD], hr⟩
  | cons a r ih =>
    intro d hr hn h1 hl
    rw [List.length_cons] at hl
    obtain ⟨e, w⟩ := act_write hr hn h1 (by omega) a
    have hr' := write_runs e
    rw [w] at hr'
    have h := ih ⟨d.secs, d.pend ++ [actWr n a], d.left, d.stop⟩ hr' hn h1 (by rw [List.length_append, List.length_singleton]; omega)
    have e2 : manyD n d (a :: r) = manyD n ⟨d.secs, d.pend ++ [actWr n a], d.left, d.stop⟩ r := by show manyD n (writeD d (actAt n a) [a.byte]) r = _; rw [w]
    rw [e2]
    refine ⟨?_, h.2⟩
    rw [h.1]
    simp
theorem many_snoc (n : Nat) (d : Dsk) (l : List ActM) (a : ActM) : manyD n d (l ++ [a]) = writeD (manyD n d l) (actAt n a) [a.byte] := by unfold manyD; rw [List.foldl_append]; rfl
theorem one_snoc (n : Nat) (d : Dsk) (l : List ActM) (a : ActM) : oneD n d (l ++ [a]) = oneStep n (oneD n d l) a := by unfold oneD; rw [List.foldl_append]; rfl
theorem one_stop {n : Nat} {s : Dsk × Int} (h : s.2 ≠ 0) (l : List ActM) : l.foldl (oneStep n) s = s := by
  induction l with
  | nil => rfl
  | cons a r ih => rw [List.foldl_cons, show oneStep n s a = s by unfold oneStep; rw [if_neg h]]; exact ih
theorem stops_eq (s : List (List UInt8)) (p : List Wr) (l : Int) (t : Bool) : (Dsk.mk s p l t).stops = true ↔ 0 ≤ l ∧ l < (p.length : Int) := stops_iff _
theorem sync_run {d : Dsk} (h : d.runs = true) : syncD d = (if d.stops then ⟨tornD d, [], 0, true⟩ else ⟨performD d.pend d.secs, [], if 0 ≤ d.left then d.left - d.pend.length else d.left, false⟩) ∧ syncE d = (if d.stops then 470 else 0) := by unfold syncD syncE; rw [h]; exact ⟨rfl, rfl⟩
theorem one_eq {n : Nat} (l : List ActM) : ∀ (d : Dsk), d.runs = true → d.pend = [] → n = d.secs.length → 1 ≤ n → l.length ≤ 4096 →
    oneD n d l = (syncD (manyD n d l), syncE (manyD n d l)) := by
  induction l with
  | nil =>
    intro d hr hp hn h1 _
    obtain ⟨e1, e2⟩ := sync_run hr
    have hs : d.stops = false := by
      rw [← Bool.not_eq_true]
      intro h
      have := (stops_iff d).1 h
      rw [hp] at this
      simp only [List.length_nil] at this
      omega
    show (d, (0 : Int)) = (syncD d, syncE d)
    rw [e1, e2, hs, hp]
    obtain ⟨secs, pend, left, stop⟩ := d
    simp only at hp
    subst hp
    have hst : stop = false := ((runs_iff _).1 hr).2
    subst hst
    simp [performD]
  | cons a r ih =>
    intro d hr hp hn h1 hl
    rw [List.length_cons] at hl
    obtain ⟨e, w⟩ := act_write hr hn h1 (by rw [hp]; decide) a
    have hr1 := write_runs e
    have hmany := many_eq (n := n) (a :: r) d hr hn h1 (by rw [hp]; simp; omega)
    have hst : d.stop = false := ((runs_iff _).1 hr).2
    obtain ⟨secs, pend, left, stop⟩ := d
    simp only at hp hn hst hr w e hr1 hmany
    subst hp; subst hst
    rw [List.nil_append] at w
    have hrm := hmany.2
    rw [hmany.1, List.nil_append] at hrm
    have hone : oneD n ⟨secs, [], left, false⟩ (a :: r) = r.foldl (oneStep n) (syncD ⟨secs, [actWr n a], left, false⟩, syncE ⟨secs, [actWr n a], left, false⟩) := by
      show r.foldl (oneStep n) (oneStep n (⟨secs, [], left, false⟩, 0) a) = _
      unfold oneStep
      rw [if_pos rfl]
      simp only [w]
    rw [w] at hr1
    rw [hone, hmany.1, List.nil_append]
    obtain ⟨s1, s2⟩ := sync_run hr1
    obtain ⟨t1, t2⟩ := sync_run hrm
    by_cases h0 : left = 0
    · subst h0
      have hs1 : (Dsk.mk secs [actWr n a] 0 false).stops = true := (stops_eq _ _ _ _).2 ⟨by omega, by simp⟩
      have ht1 : (Dsk.mk secs ((a :: r).map (actWr n)) 0 false).stops = true := (stops_eq _ _ _ _).2 ⟨by omega, by simp only [List.length_map, List.length_cons]; omega⟩
      rw [hs1, if_pos rfl] at s1 s2
      rw [ht1, if_pos rfl] at t1 t2
      rw [s1, s2, t1, t2, one_stop (by show (470 : Int) ≠ 0; decide)]
      rfl
    · have hs1 : (Dsk.mk secs [actWr n a] left false).stops = false := by
        rw [← Bool.not_eq_true]; intro h
        have := (stops_eq _ _ _ _).1 h
        simp only [List.length_singleton] at this
        omega
      rw [hs1] at s1 s2
      simp only [Bool.false_eq_true, if_false] at s1 s2
      obtain ⟨left', hl'⟩ : ∃ l', l' = if 0 ≤ left then left - 1 else left := ⟨_, rfl⟩
      have es1 : syncD ⟨secs, [actWr n a], left, false⟩ = ⟨secs.set (actAt n a).toNat (pad [a.byte]), [], left', false⟩ := by
        rw [s1, hl']; rfl
      have hr2 : (Dsk.mk (secs.set (actAt n a).toNat (pad [a.byte])) [] left' false).runs = true := by
        rw [← es1]; exact sync_runs s2
      have hi := ih ⟨secs.set (actAt n a).toNat (pad [a.byte]), [], left', false⟩ hr2 rfl (by rw [List.length_set]; exact hn) h1 (by omega)
      rw [es1, s2]
      refine Eq.trans hi ?_
      have hm2 := many_eq (n := n) r ⟨secs.set (actAt n a).toNat (pad [a.byte]), [], left', false⟩ hr2 (by rw [List.length_set]; exact hn) h1 (by simp; omega)
      have hrm2 := hm2.2
      rw [hm2.1, List.nil_append] at hrm2
      rw [hm2.1, List.nil_append]
      obtain ⟨u1, u2⟩ := sync_run hrm2
      have hiff : (Dsk.mk (secs.set (actAt n a).toNat (pad [a.byte])) (r.map (actWr n)) left' false).stops = (Dsk.mk secs ((a :: r).map (actWr n)) left false).stops := by
        rw [Bool.eq_iff_iff, stops_eq, stops_eq, hl']
        simp only [List.length_map, List.length_cons]
        split <;> omega
      rw [u1, u2, t1, t2, hiff]
      cases hq : (Dsk.mk secs ((a :: r).map (actWr n)) left false).stops
      · simp only [Bool.false_eq_true, if_false, Prod.mk.injEq, and_true]
        congr 1
        rw [hl']
        simp only [List.length_map, List.length_cons]
        by_cases h9 : 0 ≤ left
        · rw [if_pos h9, if_pos h9]; split <;> omega
        · rw [if_neg h9, if_neg h9, if_neg h9]
      · simp only [if_true, Prod.mk.injEq, and_true]
        congr 1
        have hb := (stops_eq _ _ _ _).1 hq
        obtain ⟨k, rfl⟩ : ∃ k : Nat, left = ((k + 1 : Nat) : Int) := ⟨(left - 1).toNat, by omega⟩
        have hk : left' = (k : Int) := by rw [hl', if_pos (by omega)]; omega
        subst hk
        unfold tornD
        rfl
end Go.Proofs.Ytmcdimcjmafaoaa.B
