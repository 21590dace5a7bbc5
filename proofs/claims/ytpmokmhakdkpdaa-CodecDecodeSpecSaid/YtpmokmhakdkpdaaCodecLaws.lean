/- The plain laws of the codec: decoding undoes encoding, encoding undoes decoding, no encoding begins another one. -/
import Derived.Test.YtpmokmhakdkpdaaSmall
import Derived.Test.YtpmokmhakdkpdaaReadPure
import Derived.Test.YtpmokmhakdkpdaaStr
namespace Go.Proofs.Ytpmokmhakdkpdaa.B

theorem pow_step {i : Nat} (h : i ≤ 8) : 2 ^ (64 - 7 * i) = 128 * 2 ^ (64 - 7 * (i + 1)) := by
  have : 64 - 7 * i = 7 + (64 - 7 * (i + 1)) := by omega
  rw [this, Nat.pow_add]
theorem ofNat_toNat {n : Nat} (h : n < 256) : (UInt8.ofNat n).toNat = n := by simp; omega
theorem numM_numeral : ∀ (m u i : Nat) (r : List UInt8), u ≤ m → i ≤ 9 → u < 2 ^ (64 - 7 * i) → (i = 0 ∨ u ≠ 0) → numM i (numeral u ++ r) = some (u, r) := by
  intro m
  induction m with
  | zero =>
    intro u i r hm hi hu h0
    have : u = 0 := by omega
    subst this
    have : i = 0 := by omega
    subst this
    rw [numeral_lt (by omega)]
    simp [numM]
  | succ m ih =>
    intro u i r hm hi hu h0
    by_cases h9 : i = 9
    · subst h9
      have hu2 : u < 2 := by simpa using hu
      rw [numeral_lt (by omega)]
      have h1 : u = 1 := by omega
      subst h1
      simp [numM]
    · by_cases hlt : u < 128
      · rw [numeral_lt hlt]
        simp only [List.cons_append, List.nil_append, numM, ofNat_toNat (show u < 256 by omega)]
        rw [if_pos ⟨h0, .inl (by omega)⟩, if_pos hlt]
      · rw [numeral_ge (by omega)]
        have hc : (UInt8.ofNat (u % 128 + 128)).toNat = u % 128 + 128 := ofNat_toNat (by omega)
        simp only [List.cons_append, numM, hc]
        rw [if_pos ⟨.inr (by omega), .inl (by omega)⟩, if_neg (by omega)]
        have hp := pow_step (i := i) (by omega)
        rw [ih (u / 128) (i + 1) r (by omega) (by omega) (by rw [hp] at hu; exact Nat.div_lt_of_lt_mul hu) (.inr (by omega))]
        simp only [Option.map_some, Option.some.injEq, Prod.mk.injEq, and_true]
        omega
theorem numM_inv : ∀ (r : List UInt8) (i u : Nat) (r' : List UInt8), numM i r = some (u, r') → r = numeral u ++ r' ∧ (i = 0 ∨ u ≠ 0)
  | [], i, u, r', h => by simp [numM] at h
  | c :: r, i, u, r', h => by
    simp only [numM] at h
    split at h
    · rename_i hc
      split at h
      · rename_i hlt
        simp only [Option.some.injEq, Prod.mk.injEq] at h
        obtain ⟨rfl, rfl⟩ := h
        rw [numeral_lt hlt]
        exact ⟨by simp, hc.1⟩
      · rename_i hge
        cases hn : numM (i + 1) r with
        | none => rw [hn] at h; simp at h
        | some p =>
          obtain ⟨u', r2⟩ := p
          rw [hn] at h
          simp only [Option.map_some, Option.some.injEq, Prod.mk.injEq] at h
          obtain ⟨rfl, rfl⟩ := h
          obtain ⟨h1, h2⟩ := numM_inv r (i + 1) u' r2 hn
          have hc256 : c.toNat < 256 := c.toNat_lt
          have hu' : u' ≠ 0 := by omega
          refine ⟨?_, .inr (by omega)⟩
          rw [numeral_ge (by omega), h1]
          have e1 : (c.toNat % 128 + 128 * u') % 128 + 128 = c.toNat := by omega
          have e2 : (c.toNat % 128 + 128 * u') / 128 = u' := by omega
          rw [e1, e2]
          simp
    · cases h
theorem lenM_numeral {n : Nat} {r : List UInt8} (h : n ≤ r.length) (hn : n < 18446744073709551616) : lenM (numeral n ++ r) = some (n, r) := by
  unfold lenM
  rw [numM_numeral n n 0 r (Nat.le_refl _) (by omega) (by simpa using hn) (.inl rfl)]
  simp [h]
theorem lenM_inv {n : Nat} {r r' : List UInt8} (h : lenM r = some (n, r')) : r = numeral n ++ r' := (numM_inv r 0 n r' (lenM_num h)).1
theorem listM_enc {f : List UInt8 → Option (Val × List UInt8)} : ∀ (l : List Val) (r : List UInt8), (∀ x ∈ l, ∀ r, f (enc x ++ r) = some (x, r)) → listM f l.length (encL l ++ r) = some (l, r) := by
  intro l
  induction l with
  | nil => intro r h; simp [listM, encL]
  | cons y t ih =>
    intro r h
    simp only [List.length_cons, listM, encL, List.append_assoc]
    rw [h y List.mem_cons_self]
    simp only [Option.bind_some]
    rw [ih r (fun x hx => h x (List.mem_cons_of_mem _ hx))]
    simp
theorem enc_pos (v : Val) : 0 < (enc v).length := by
  obtain ⟨k, n, s, l⟩ := v
  simp only [enc]
  split
  · simp
  · split <;> simp
theorem encL_ge (l : List Val) : l.length ≤ (encL l).length := by
  induction l with
  | nil => simp
  | cons y t ih => simp only [encL, List.length_cons, List.length_append]; have := enc_pos y; omega
theorem empty_toList : empty.toList = [] := by rw [toList_eq]; rfl
theorem str_of_empty {s : ByteArray} (h : s.toList = []) : s = empty := toList_inj (by rw [h, empty_toList])
theorem str_back (s : ByteArray) : (⟨s.data.toList.toArray⟩ : ByteArray) = s := by cases s; simp
/-- Decoding undoes encoding. -/
theorem valM_enc : ∀ (v : Val), v.formed = true → v.ok → ∀ (k : Nat) (r : List UInt8), v.depth ≤ k → valM k (enc v ++ r) = some (v, r) := by
  refine Val.ind (fun v ih => ?_)
  intro hf hok k r hd
  have hkind := formed_kind hf
  obtain ⟨kd, n, s, l⟩ := v
  obtain ⟨hk, hn, hs, hl, hL⟩ := hok
  simp only at hkind ih
  rcases hkind with rfl | rfl | rfl
  · have h : s.toList = [] ∧ l = [] := by simpa [Val.formed] using hf
    obtain ⟨h1, rfl⟩ := h
    obtain rfl := str_of_empty h1
    rw [enc_int]
    have hnum := numM_numeral (zig n) (zig n) 0 r (Nat.le_refl _) (by omega) (by have := zig_lt hn.1 hn.2; simpa using this) (.inl rfl)
    cases k <;> (simp only [List.cons_append, valM]; rw [if_pos (by decide), hnum]; simp [zag_zig])
  · have h : n = 0 ∧ l = [] := by simpa [Val.formed] using hf
    obtain ⟨rfl, rfl⟩ := h
    rw [enc_text]
    have hsz : s.data.toList.length = s.size := by rw [Array.length_toList]; rfl
    have hlen : lenM (numeral s.size ++ (s.data.toList ++ r)) = some (s.size, s.data.toList ++ r) := lenM_numeral (by rw [List.length_append, hsz]; omega) (maxLen_lt hs)
    have ht : List.take s.size (s.data.toList ++ r) = s.data.toList := by rw [← hsz, List.take_left]
    have hdr : List.drop s.size (s.data.toList ++ r) = r := by rw [← hsz, List.drop_left]
    cases k <;> (simp only [List.cons_append, valM, List.append_assoc]; rw [if_neg (by decide), if_pos (by decide), hlen]; simp only [Option.map_some, ht, hdr, str_back])
  · obtain ⟨rfl, h1, hfl⟩ := formed_list_of hf
    obtain rfl := str_of_empty h1
    simp only [Val.depth, if_true] at hd
    obtain ⟨k, rfl⟩ : ∃ j, k = j + 1 := ⟨k - 1, by omega⟩
    rw [enc_list]
    have hg := encL_ge l
    simp only [List.cons_append, valM, List.append_assoc]
    rw [if_neg (by decide), if_neg (by decide), if_pos (by decide), lenM_numeral (by rw [List.length_append]; omega) (maxLen_lt hl)]
    simp only [Option.bind_some]
    rw [listM_enc l r (fun x hx r => ih x hx (formedL_all hfl x hx) (okL_all hL x hx) k r (Nat.le_trans (depth_le_of_mem hx) (by omega)))]
    simp
theorem listM_inv {f : List UInt8 → Option (Val × List UInt8)} {P : Val → Prop} (hf : ∀ r x r', f r = some (x, r') → r = enc x ++ r' ∧ P x) :
    ∀ (n : Nat) (r : List UInt8) (xs : List Val) (r' : List UInt8), listM f n r = some (xs, r') → r = encL xs ++ r' ∧ xs.length = n ∧ ∀ x ∈ xs, P x := by
  intro n
  induction n with
  | zero =>
    intro r xs r' h
    simp only [listM, Option.some.injEq, Prod.mk.injEq] at h
    obtain ⟨rfl, rfl⟩ := h
    exact ⟨by simp [encL], rfl, by simp⟩
  | succ n ih =>
    intro r xs r' h
    simp only [listM] at h
    cases h1 : f r with
    | none => rw [h1] at h; simp at h
    | some p =>
      obtain ⟨x, r1⟩ := p
      rw [h1] at h
      simp only [Option.bind_some] at h
      cases h2 : listM f n r1 with
      | none => rw [h2] at h; simp at h
      | some q =>
        obtain ⟨ys, r2⟩ := q
        rw [h2] at h
        simp only [Option.map_some, Option.some.injEq, Prod.mk.injEq] at h
        obtain ⟨rfl, rfl⟩ := h
        obtain ⟨e1, hp⟩ := hf _ _ _ h1
        obtain ⟨e2, e3, hps⟩ := ih _ _ _ h2
        refine ⟨by rw [e1, e2]; simp [encL], by simp [e3], fun y hy => ?_⟩
        rcases List.mem_cons.1 hy with rfl | hy
        · exact hp
        · exact hps y hy
theorem u8_eq {c : UInt8} {n : Nat} (h : c.toNat = n) (hn : n < 256) : c = UInt8.ofNat n := by rw [← h]; simp
/-- Encoding undoes decoding. -/
theorem valM_inv : ∀ (k : Nat) (b : List UInt8) (v : Val) (r : List UInt8), valM k b = some (v, r) → b = enc v ++ r ∧ v.formed = true ∧ v.depth ≤ k := by
  intro k
  induction k with
  | zero =>
    intro b v r h
    cases b with
    | nil => simp [valM] at h
    | cons c b =>
      simp only [valM] at h
      split at h
      · rename_i hc
        cases hn : numM 0 b with
        | none => rw [hn] at h; simp at h
        | some p =>
          obtain ⟨u, r1⟩ := p
          rw [hn] at h
          simp only [Option.map_some, Option.some.injEq, Prod.mk.injEq] at h
          obtain ⟨rfl, rfl⟩ := h
          refine ⟨?_, by simp [Val.formed, empty_toList], by simp [Val.depth]⟩
          rw [enc_int, zig_zag, u8_eq hc (by decide), (numM_inv _ _ _ _ hn).1]; rfl
      · split at h
        · rename_i hc
          cases hn : lenM b with
          | none => rw [hn] at h; simp at h
          | some p =>
            obtain ⟨u, r1⟩ := p
            rw [hn] at h
            have hle := lenM_le hn
            simp only [Option.map_some, Option.some.injEq, Prod.mk.injEq] at h
            obtain ⟨rfl, rfl⟩ := h
            refine ⟨?_, by simp [Val.formed], by simp [Val.depth]⟩
            rw [enc_text, u8_eq hc (by decide), lenM_inv hn]
            have hsz : (⟨(List.take u r1).toArray⟩ : ByteArray).size = u := by show (List.take u r1).toArray.size = u; simp; omega
            rw [hsz]
            simp
        · split at h
          · cases h
          · cases h
  | succ k ih =>
    intro b v r h
    cases b with
    | nil => simp [valM] at h
    | cons c b =>
      simp only [valM] at h
      split at h
      · rename_i hc
        cases hn : numM 0 b with
        | none => rw [hn] at h; simp at h
        | some p =>
          obtain ⟨u, r1⟩ := p
          rw [hn] at h
          simp only [Option.map_some, Option.some.injEq, Prod.mk.injEq] at h
          obtain ⟨rfl, rfl⟩ := h
          refine ⟨?_, by simp [Val.formed, empty_toList], by simp [Val.depth]⟩
          rw [enc_int, zig_zag, u8_eq hc (by decide), (numM_inv _ _ _ _ hn).1]; rfl
      · split at h
        · rename_i hc
          cases hn : lenM b with
          | none => rw [hn] at h; simp at h
          | some p =>
            obtain ⟨u, r1⟩ := p
            rw [hn] at h
            have hle := lenM_le hn
            simp only [Option.map_some, Option.some.injEq, Prod.mk.injEq] at h
            obtain ⟨rfl, rfl⟩ := h
            refine ⟨?_, by simp [Val.formed], by simp [Val.depth]⟩
            rw [enc_text, u8_eq hc (by decide), lenM_inv hn]
            have hsz : (⟨(List.take u r1).toArray⟩ : ByteArray).size = u := by show (List.take u r1).toArray.size = u; simp; omega
            rw [hsz]
            simp
        · split at h
          · rename_i hc
            cases hn : lenM b with
            | none => rw [hn] at h; simp at h
            | some p =>
              obtain ⟨u, r1⟩ := p
              rw [hn] at h
              simp only [Option.bind_some] at h
              cases hl : listM (valM k) u r1 with
              | none => rw [hl] at h; simp at h
              | some q =>
                obtain ⟨xs, r2⟩ := q
                rw [hl] at h
                simp only [Option.map_some, Option.some.injEq, Prod.mk.injEq] at h
                obtain ⟨rfl, rfl⟩ := h
                obtain ⟨e1, e2, hps⟩ := listM_inv (P := fun x => x.formed = true ∧ x.depth ≤ k) (fun r x r' h => ih r x r' h) _ _ _ _ hl
                refine ⟨?_, ?_, ?_⟩
                · rw [enc_list, u8_eq hc (by decide), lenM_inv hn, e1, e2]
                  simp
                · simp only [Val.formed]
                  have : formedL xs = true := formedL_of (fun x hx => (hps x hx).1)
                  simp [this, empty_toList]
                · simp only [Val.depth, if_true]
                  exact Nat.succ_le_succ (depthL_le.2 (fun x hx => (hps x hx).2))
          · cases h

theorem decodeM_enc {v : Val} (h : checkM v = 0) (hok : v.ok) : decodeM (encodeM v) = some v := by
  obtain ⟨hf, hd⟩ := checkM_ok h
  unfold decodeM encodeM
  rw [if_pos h]
  have := valM_enc v hf hok 16 [] hd
  rw [List.append_nil] at this
  rw [this]
  rfl
theorem checkM_of {v : Val} (hf : v.formed = true) (hd : v.depth ≤ 16) : checkM v = 0 := by
  unfold checkM
  rw [if_pos hf, if_neg (by omega)]
theorem decodeM_inv {b : List UInt8} {v : Val} (h : decodeM b = some v) : checkM v = 0 ∧ encodeM v = b := by
  unfold decodeM at h
  cases hv : valM 16 b with
  | none => rw [hv] at h; cases h
  | some p =>
    obtain ⟨x, r⟩ := p
    rw [hv] at h
    simp only [Option.bind_some] at h
    split at h
    · rename_i hr
      simp only [Option.some.injEq] at h
      subst h
      obtain ⟨e1, hf, hd⟩ := valM_inv _ _ _ _ hv
      have hc := checkM_of hf hd
      refine ⟨hc, ?_⟩
      unfold encodeM
      rw [if_pos hc, e1, List.isEmpty_iff.1 hr, List.append_nil]
    · cases h
/-- No encoding begins another one. -/
theorem enc_prefix {v w : Val} (h1 : checkM v = 0) (h2 : checkM w = 0) (hv : v.ok) (hw : w.ok) {r : List UInt8} (h : encodeM w = encodeM v ++ r) : v = w := by
  obtain ⟨hf1, hd1⟩ := checkM_ok h1
  obtain ⟨hf2, hd2⟩ := checkM_ok h2
  unfold encodeM at h
  rw [if_pos h1, if_pos h2] at h
  have e1 := valM_enc v hf1 hv 16 r hd1
  have e2 := valM_enc w hf2 hw 16 [] hd2
  rw [List.append_nil, h, e1] at e2
  simp only [Option.some.injEq, Prod.mk.injEq] at e2
  exact e2.1
theorem enc_apart {v w : Val} (h1 : checkM v = 0) (h2 : checkM w = 0) (hv : v.ok) (hw : w.ok) (hne : v ≠ w) :
    (encodeM v).take (min (encodeM v).length (encodeM w).length) ≠ (encodeM w).take (min (encodeM v).length (encodeM w).length) := by
  intro h
  rcases Nat.le_total (encodeM v).length (encodeM w).length with hle | hle
  · rw [Nat.min_eq_left hle, List.take_length] at h
    exact hne (enc_prefix h1 h2 hv hw (r := (encodeM w).drop (encodeM v).length) (by conv => lhs; rw [← List.take_append_drop (encodeM v).length (encodeM w), ← h]))
  · rw [Nat.min_eq_right hle, List.take_length] at h
    exact hne (enc_prefix h2 h1 hw hv (r := (encodeM v).drop (encodeM w).length) (by conv => lhs; rw [← List.take_append_drop (encodeM w).length (encodeM v), h])).symm

/-! ### numbers -/
theorem numeral_mono : ∀ (n u : Nat), u ≤ n → (numeral u).length ≤ (numeral n).length := by
  intro n
  induction n using Nat.strongRecOn with
  | _ n ih =>
    intro u hu
    by_cases h : u < 128
    · rw [numeral_lt h]; exact numeral_pos n
    · rw [numeral_ge (by omega), numeral_ge (u := n) (by omega)]
      have := ih (n / 128) (by omega) (u / 128) (Nat.div_le_div_right hu)
      simp only [List.length_cons]
      omega
theorem enc_num_len (n : Int) : (encodeM ⟨1, n, empty, []⟩).length = 1 + (numeral (zig n)).length := by
  have h : checkM ⟨1, n, empty, []⟩ = 0 := checkM_of (by simp [Val.formed, empty_toList]) (by simp [Val.depth])
  unfold encodeM
  rw [if_pos h, enc_int, List.length_cons]
  omega
theorem check_num (n : Int) : checkM ⟨1, n, empty, []⟩ = 0 := checkM_of (by simp [Val.formed, empty_toList]) (by simp [Val.depth])
theorem enc_num_bd {n : Int} (h : I64 n) : 2 ≤ (encodeM ⟨1, n, empty, []⟩).length ∧ (encodeM ⟨1, n, empty, []⟩).length ≤ 11 := by
  rw [enc_num_len]
  have := numeral_pos (zig n)
  have := numeral_le10 (zig_lt h.1 h.2)
  omega
theorem enc_num_mono {a b : Int} (h : 0 ≤ a ∧ a ≤ b ∨ a < 0 ∧ b ≤ a) : (encodeM ⟨1, a, empty, []⟩).length ≤ (encodeM ⟨1, b, empty, []⟩).length := by
  rw [enc_num_len, enc_num_len]
  have := numeral_mono (zig b) (zig a) (by unfold zig; split <;> split <;> omega)
  omega

/-! ### lists -/
theorem checkM_cases (v : Val) : checkM v = 0 ∨ checkM v = 1 ∨ checkM v = 2 := by
  unfold checkM
  split
  · split <;> simp
  · simp
theorem check_list_bad {l : List Val} {x : Val} (hx : x ∈ l) (h : checkM x ≠ 0) : checkM ⟨3, 0, empty, l⟩ ≠ 0 := by
  intro h0
  obtain ⟨hf, hd⟩ := checkM_ok h0
  obtain ⟨_, _, hfl⟩ := formed_list_of hf
  simp only [Val.depth, if_true] at hd
  have := depth_le_of_mem hx
  exact h (checkM_of (formedL_all hfl x hx) (by omega))
theorem check_list_ok {l : List Val} (h : ∀ x ∈ l, checkM x = 0) : checkM ⟨3, 0, empty, l⟩ = 0 ∨ checkM ⟨3, 0, empty, l⟩ = 2 := by
  have hf : Val.formed ⟨3, 0, empty, l⟩ = true := by
    have : formedL l = true := formedL_of (fun x hx => (checkM_ok (h x hx)).1)
    simp [Val.formed, this, empty_toList]
  unfold checkM
  rw [if_pos hf]
  split <;> simp
theorem encodeM_of {v : Val} (h : checkM v = 0) : encodeM v = enc v := by unfold encodeM; rw [if_pos h]
theorem encodeM_bad {v : Val} (h : checkM v ≠ 0) : encodeM v = [] := by unfold encodeM; rw [if_neg h]
def zeroV : Val := ⟨1, 0, empty, []⟩
theorem enc_zeroV : enc zeroV = [1, 0] := by
  unfold zeroV
  rw [enc_int, show zig 0 = 0 by decide, numeral_lt (by decide)]; rfl
theorem encL_zeros (n : Nat) : (encL (List.replicate n zeroV)).length = 2 * n := by
  induction n with
  | zero => rfl
  | succ n ih => rw [List.replicate_succ]; simp only [encL, List.length_append, ih, enc_zeroV, List.length_cons, List.length_nil]; omega
theorem check_zeros (n : Nat) : checkM ⟨3, 0, empty, List.replicate n zeroV⟩ = 0 := by
  refine checkM_of ?_ ?_
  · have : formedL (List.replicate n zeroV) = true := formedL_of (fun x hx => by rw [(List.mem_replicate.1 hx).2]; simp [zeroV, Val.formed, empty_toList])
    simp [Val.formed, this, empty_toList]
  · simp only [Val.depth, if_true]
    have : depthL (List.replicate n zeroV) ≤ 0 := depthL_le.2 (fun x hx => by rw [(List.mem_replicate.1 hx).2]; simp [zeroV, Val.depth])
    omega
theorem size_zeros (n : Nat) : (encodeM ⟨3, 0, empty, List.replicate n zeroV⟩).length = 1 + (numeral n).length + 2 * n := by
  rw [encodeM_of (check_zeros n), enc_list, List.length_cons, List.length_append, encL_zeros, List.length_replicate]
  omega
theorem size_list {l : List Val} (h : checkM ⟨3, 0, empty, l⟩ = 0) : encodeM ⟨3, 0, empty, l⟩ = 3 :: (numeral l.length ++ encL l) := by
  rw [encodeM_of h, enc_list]
end Go.Proofs.Ytpmokmhakdkpdaa.B
