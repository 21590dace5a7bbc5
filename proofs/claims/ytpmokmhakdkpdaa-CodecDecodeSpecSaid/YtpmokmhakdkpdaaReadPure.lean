/- The decoder in plain Lean: what is read of bytes, and what is left. -/
import Derived.Test.YtpmokmhakdkpdaaEncPure
namespace Go.Proofs.Ytpmokmhakdkpdaa.B
/-- A numeral whose digit number i comes next. -/
def numM : Nat → List UInt8 → Option (Nat × List UInt8)
  | _, [] => none
  | i, c :: r => if (i = 0 ∨ c.toNat ≠ 0) ∧ (i < 9 ∨ c.toNat ≤ 1) then (if c.toNat < 128 then some (c.toNat, r) else (numM (i + 1) r).map fun p => (c.toNat % 128 + 128 * p.1, p.2)) else none
/-- A numeral that says how many bytes or elements follow. -/
def lenM (r : List UInt8) : Option (Nat × List UInt8) := (numM 0 r).bind fun p => if p.1 ≤ p.2.length then some p else none
def listM (f : List UInt8 → Option (Val × List UInt8)) : Nat → List UInt8 → Option (List Val × List UInt8)
  | 0, r => some ([], r)
  | n + 1, r => (f r).bind fun p => (listM f n p.2).map fun q => (p.1 :: q.1, q.2)
def empty : ByteArray := ⟨#[]⟩
/-- A value that may nest k deep. -/
def valM : Nat → List UInt8 → Option (Val × List UInt8)
  | _, [] => none
  | k, c :: r =>
    if c.toNat = 1 then (numM 0 r).map fun p => (⟨1, zag p.1, empty, []⟩, p.2)
    else if c.toNat = 2 then (lenM r).map fun p => (⟨2, 0, ⟨(p.2.take p.1).toArray⟩, []⟩, p.2.drop p.1)
    else if c.toNat = 3 then
      match k with
      | 0 => none
      | k + 1 => (lenM r).bind fun p => (listM (valM k) p.1 p.2).map fun q => (⟨3, 0, empty, q.1⟩, q.2)
    else none
/-- codec.Decode's answer. -/
def decodeM (b : List UInt8) : Option Val := (valM 16 b).bind fun p => if p.2.isEmpty then some p.1 else none

theorem numM_len : ∀ (r : List UInt8) (i : Nat) (p : Nat × List UInt8), numM i r = some p → p.2.length < r.length
  | [], i, p, h => by simp [numM] at h
  | c :: r, i, p, h => by
    rw [numM] at h
    split at h
    · split at h
      · injection h with h; subst h; simp
      · cases hn : numM (i + 1) r with
        | none => rw [hn] at h; cases h
        | some q =>
          rw [hn] at h
          injection h with h
          subst h
          have := numM_len r (i + 1) q hn
          simp only [List.length_cons]
          omega
    · cases h
theorem numM_lt : ∀ (r : List UInt8) (i : Nat) (p : Nat × List UInt8), i ≤ 9 → numM i r = some p → p.1 < 2 ^ (64 - 7 * i)
  | [], i, p, _, h => by simp [numM] at h
  | c :: r, i, p, hi, h => by
    rw [numM] at h
    split at h
    · rename_i hc
      split at h
      · rename_i hlt
        injection h with h; subst h
        show c.toNat < _
        by_cases h9 : i = 9
        · subst h9; have : c.toNat ≤ 1 := by omega
          exact Nat.lt_of_le_of_lt this (show 1 < 2 ^ (64 - 7 * 9) by decide)
        · have h8 : 7 ≤ 64 - 7 * i := by omega
          exact Nat.lt_of_lt_of_le hlt (Nat.pow_le_pow_right (n := 2) (by decide) h8)
      · cases hn : numM (i + 1) r with
        | none => rw [hn] at h; cases h
        | some q =>
          rw [hn] at h
          injection h with h
          subst h
          have h9 : i ≠ 9 := by omega
          have := numM_lt r (i + 1) q (by omega) hn
          show c.toNat % 128 + 128 * q.1 < _
          have e : 2 ^ (64 - 7 * i) = 128 * 2 ^ (64 - 7 * (i + 1)) := by
            rw [show (128 : Nat) = 2 ^ 7 by rfl, ← Nat.pow_add]; congr 1; omega
          have : c.toNat % 128 < 128 := Nat.mod_lt _ (by decide)
          omega
    · cases h
theorem lenM_le {r r' : List UInt8} {n : Nat} (h : lenM r = some (n, r')) : n ≤ r'.length := by
  unfold lenM at h
  cases hm : numM 0 r with
  | none => rw [hm] at h; cases h
  | some q =>
    rw [hm] at h
    simp only [Option.bind_some] at h
    split at h
    · injection h with h; subst h; assumption
    · cases h
theorem lenM_num {r r' : List UInt8} {n : Nat} (h : lenM r = some (n, r')) : numM 0 r = some (n, r') := by
  unfold lenM at h
  cases hm : numM 0 r with
  | none => rw [hm] at h; cases h
  | some q =>
    rw [hm] at h
    simp only [Option.bind_some] at h
    split at h
    · exact h
    · cases h
theorem lenM_len {r r' : List UInt8} {n : Nat} (h : lenM r = some (n, r')) : r'.length < r.length := numM_len r 0 _ (lenM_num h)
theorem listM_len {f : List UInt8 → Option (Val × List UInt8)} (hf : ∀ r x r', f r = some (x, r') → r'.length ≤ r.length) : ∀ (n : Nat) (r : List UInt8) (xs : List Val) (r' : List UInt8), listM f n r = some (xs, r') → r'.length ≤ r.length := by
  intro n
  induction n with
  | zero => intro r xs r' h; simp only [listM] at h; injection h with h; injection h with _ h; subst h; exact Nat.le_refl _
  | succ n ih =>
    intro r xs r' h
    rw [listM] at h
    cases hr : f r with
    | none => rw [hr] at h; cases h
    | some p =>
      obtain ⟨x, r1⟩ := p
      rw [hr] at h
      simp only [Option.bind_some] at h
      cases hl : listM f n r1 with
      | none => rw [hl] at h; cases h
      | some q =>
        obtain ⟨ys, r2⟩ := q
        rw [hl] at h
        injection h with h
        injection h with _ h
        subst h
        exact Nat.le_trans (ih r1 ys r2 hl) (hf r x r1 hr)
theorem valM_len : ∀ (k : Nat) (r : List UInt8) (x : Val) (r' : List UInt8), valM k r = some (x, r') → r'.length ≤ r.length := by
  intro k
  induction k with
  | zero =>
    intro r x r' h
    cases r with
    | nil => unfold valM at h; cases h
    | cons c r =>
      unfold valM at h
      by_cases h1 : c.toNat = 1
      · rw [if_pos h1] at h
        cases hn : numM 0 r with
        | none => rw [hn] at h; cases h
        | some q => rw [hn] at h; injection h with h; injection h with _ h; subst h; have := numM_len r 0 q hn; simp only [List.length_cons]; omega
      · rw [if_neg h1] at h
        by_cases h2 : c.toNat = 2
        · rw [if_pos h2] at h
          cases hn : lenM r with
          | none => rw [hn] at h; cases h
          | some q => obtain ⟨n, q⟩ := q; rw [hn] at h; injection h with h; injection h with _ h; subst h; have := lenM_len hn; simp only [List.length_cons, List.length_drop]; omega
        · rw [if_neg h2] at h
          by_cases h3 : c.toNat = 3
          · rw [if_pos h3] at h; cases h
          · rw [if_neg h3] at h; cases h
  | succ k ih =>
    intro r x r' h
    cases r with
    | nil => unfold valM at h; cases h
    | cons c r =>
      unfold valM at h
      by_cases h1 : c.toNat = 1
      · rw [if_pos h1] at h
        cases hn : numM 0 r with
        | none => rw [hn] at h; cases h
        | some q => rw [hn] at h; injection h with h; injection h with _ h; subst h; have := numM_len r 0 q hn; simp only [List.length_cons]; omega
      · rw [if_neg h1] at h
        by_cases h2 : c.toNat = 2
        · rw [if_pos h2] at h
          cases hn : lenM r with
          | none => rw [hn] at h; cases h
          | some q => obtain ⟨n, q⟩ := q; rw [hn] at h; injection h with h; injection h with _ h; subst h; have := lenM_len hn; simp only [List.length_cons, List.length_drop]; omega
        · rw [if_neg h2] at h
          by_cases h3 : c.toNat = 3
          · rw [if_pos h3] at h
            simp only at h
            cases hn : lenM r with
            | none => rw [hn] at h; cases h
            | some q =>
              obtain ⟨n, q⟩ := q
              rw [hn] at h
              simp only [Option.bind_some] at h
              cases hl : listM (valM k) n q with
              | none => rw [hl] at h; cases h
              | some p =>
                obtain ⟨xs, r2⟩ := p
                rw [hl] at h
                injection h with h
                injection h with _ h
                subst h
                have e1 := listM_len ih n q xs r2 hl
                have e2 := lenM_len hn
                simp only [List.length_cons]
                omega
          · rw [if_neg h3] at h; cases h
end Go.Proofs.Ytpmokmhakdkpdaa.B
