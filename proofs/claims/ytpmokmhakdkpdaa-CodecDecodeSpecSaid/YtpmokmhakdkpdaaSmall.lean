/- Small values in memory: they fit, and their encodings are short. -/
import Derived.Test.YtpmokmhakdkpdaaFew
import Derived.Test.YtpmokmhakdkpdaaEncode
import Derived.Test.YtpmokmhakdkpdaaOwnLit
namespace Go.Proofs.Ytpmokmhakdkpdaa.B
open Go.RowKit

mutual
/-- What memory holds: numbers of 64 bits, lengths that fit. -/
def Val.ok : Val → Prop
  | ⟨k, n, s, l⟩ => I64 k ∧ I64 n ∧ s.size ≤ maxLen ∧ l.length ≤ maxLen ∧ okL l
def okL : List Val → Prop
  | [] => True
  | x :: r => x.ok ∧ okL r
end
theorem okL_of {l : List Val} (h : ∀ x ∈ l, x.ok) : okL l := by
  induction l with
  | nil => exact trivial
  | cons y r ih => exact ⟨h y List.mem_cons_self, ih (fun x hx => h x (List.mem_cons_of_mem _ hx))⟩
theorem okL_all {l : List Val} (h : okL l) : ∀ x ∈ l, x.ok := by
  induction l with
  | nil => intro x hx; cases hx
  | cons y r ih =>
    intro x hx
    rcases List.mem_cons.1 hx with rfl | hx
    · exact h.1
    · exact ih h.2 x hx
theorem ok_of_K {w : World} {F : Foot} : ∀ (v : Val) (cs : List Value), kVal.K w F v cs → v.ok := by
  refine Val.ind (fun v ih => ?_)
  intro cs h
  obtain ⟨A, c, rfl, hk, hn, hs, hl⟩ := kVal_open h
  obtain ⟨k, n, s, l⟩ := v
  refine ⟨hk, hn, hs, Nat.le_trans hl.le hl.max, okL_of (fun x hx => ?_)⟩
  obtain ⟨i, hi, rfl⟩ := List.getElem_of_mem hx
  obtain ⟨_, cs, _, _, _, hK, _⟩ := hl.row.at_ hi
  exact ih _ hx cs hK
theorem maxLen_lt {n : Nat} (h : n ≤ maxLen) : n < 18446744073709551616 := by unfold maxLen at h; omega
theorem totalL_mem {l : List Val} {x : Val} (h : x ∈ l) : x.total ≤ totalL l := by
  induction l with
  | nil => cases h
  | cons y r ih =>
    simp only [totalL]
    rcases List.mem_cons.1 h with rfl | h
    · omega
    · have := ih h; omega
theorem encL_len {l : List Val} (h : ∀ x ∈ l, (enc x).length ≤ 300 * x.total) : (encL l).length ≤ 300 * totalL l := by
  induction l with
  | nil => simp [encL]
  | cons y r ih =>
    simp only [encL, totalL, List.length_append]
    have h1 := h y List.mem_cons_self
    have h2 := ih (fun x hx => h x (List.mem_cons_of_mem _ hx))
    omega
/-- A value's encoding is no longer than 300 times its parts. -/
theorem enc_len : ∀ v : Val, v.ok → (enc v).length ≤ 300 * v.total := by
  refine Val.ind (fun v ih => ?_)
  intro h
  obtain ⟨k, n, s, l⟩ := v
  obtain ⟨hk, hn, hs, hl, hL⟩ := h
  have h1 := numeral_le10 (zig_lt hn.1 hn.2)
  have h2 := numeral_le10 (maxLen_lt hs)
  have h3 := numeral_le10 (maxLen_lt hl)
  have h4 : (encL l).length ≤ 300 * totalL l := encL_len (fun x hx => ih x hx (okL_all hL x hx))
  simp only [enc, Val.total]
  have hsz : s.data.toList.length = s.size := by rw [Array.length_toList]; rfl
  split
  · simp only [List.length_cons]; omega
  · split
    · simp only [List.length_cons, List.length_append, hsz]; omega
    · simp only [List.length_cons, List.length_append]; omega
theorem small_len {v : Val} {n d : Nat} (hv : v.ok) (h : Small v n d) : (encodeM v).length ≤ 300 * n := by
  have := enc_len v hv
  have := h.1
  unfold encodeM
  split
  · omega
  · simp
theorem Small.len {v : Val} (h : Small v 200 21) (hv : v.ok) : (encodeM v).length ≤ 70368744177600 := by have := small_len hv h; omega
theorem Small.depth {v : Val} (h : Small v 200 21) : v.depth < 1000000000 := by have := h.2; omega

/-- A row that has just been laid, as a slice that is read. -/
theorem SL.lit {α : Type} {d : Kd α} {e : TypeId} {w : World} {F : Foot} (xs : List α) (cells : List Value) (n : Nat) (hn : xs.length = n) (hm : n ≤ maxLen) (hc : CellsOf d w F xs cells) :
    SL d (w.alloc (.cells cells.toArray e)) (fun k => F k ∨ k = w.heap.size) (some ⟨w.heap.size, 0, none⟩) n xs := by
  have hc' : CellsOf d (w.alloc (.cells cells.toArray e)) (fun k => F k ∧ k < w.heap.size) xs cells := (hc.mono (fun k hk hl => ⟨hk, hl⟩)).move (fun k _ hk => (below_box (Below.refl w.heap.size w) (.cells cells.toArray e)).block k hk) (by simp)
  have ho : Own d e (w.alloc (.cells cells.toArray e)) 0 (fun k => F k ∧ k < w.heap.size) _ xs := Own.lit xs cells n hn hm hc' (fun h => Nat.lt_irrefl _ h.2) (Nat.zero_le _)
  obtain ⟨A, c, h1, h2⟩ := ho.sl (F' := fun k => F k ∨ k = w.heap.size) (fun k hk _ => .inl hk.1) (fun k hk => .inr (by simpa [Value.ownBlock] using hk : w.heap.size = k).symm)
  injection h1 with e1 e2 e3
  subst e1; subst e3
  exact h2
theorem few1_calls {v : Val} {w : World} {F : Foot} {A : Option Addr} {c : Nat} (h : kVal.K w F v [.int .i64 v.kind, .int .i64 v.n, .string v.s, .slice A v.l.length c]) :
    Calls Try.prog 11 #[.slice (some ⟨w.heap.size, 0, none⟩) 1 1] (w.alloc (.cells #[.int .i64 v.kind, .int .i64 v.n, .string v.s, .slice A v.l.length c] 24)) fun e w' => ∃ b, e = .returned (.bool b) ∧ (b = true → Small v 200 21) ∧ Below w.heap.size w w' := by
  have hS := SL.lit (e := 24) [v] _ 1 rfl (by decide) (CellsOf.one v _ h)
  refine (few_calls hS).mono ?_
  rintro e w' ⟨b, rfl, hb, hB⟩
  exact ⟨b, rfl, fun h => hb h v List.mem_cons_self, below_then (below_box (Below.refl _ _) _) hB⟩
theorem few2_calls {a b : Val} {w : World} {F F' : Foot} {A A' : Option Addr} {c c' : Nat} (h : kVal.K w F a [.int .i64 a.kind, .int .i64 a.n, .string a.s, .slice A a.l.length c]) (h' : kVal.K w F' b [.int .i64 b.kind, .int .i64 b.n, .string b.s, .slice A' b.l.length c']) :
    Calls Try.prog 11 #[.slice (some ⟨w.heap.size, 0, none⟩) 2 2] (w.alloc (.cells #[.int .i64 a.kind, .int .i64 a.n, .string a.s, .slice A a.l.length c, .int .i64 b.kind, .int .i64 b.n, .string b.s, .slice A' b.l.length c'] 24)) fun e w' => ∃ z, e = .returned (.bool z) ∧ (z = true → Small a 200 21 ∧ Small b 200 21) ∧ Below w.heap.size w w' := by
  have h1 := kVal.mono (F' := fun k => F k ∨ F' k) (fun _ hk _ => .inl hk) h
  have h2 := kVal.mono (F' := fun k => F k ∨ F' k) (fun _ hk _ => .inr hk) h'
  have hS := SL.lit (e := 24) [a, b] _ 2 rfl (by decide) ((CellsOf.one a _ h1).app (CellsOf.one b _ h2))
  refine (few_calls hS).mono ?_
  rintro e w' ⟨z, rfl, hb, hB⟩
  exact ⟨z, rfl, fun h => ⟨hb h a List.mem_cons_self, hb h b (List.mem_cons_of_mem _ List.mem_cons_self)⟩, below_then (below_box (Below.refl _ _) _) hB⟩
end Go.Proofs.Ytpmokmhakdkpdaa.B
