import Derived.Test.YtpmokmhakdkpdaaLawE
import Derived.Test.YtpmokmhakdkpdaaRValueB
import Derived.IntWalk
namespace Go.Proofs.Ytpmokmhakdkpdaa.B
open Go.RowKit

/-- Two rows of the call's own, in blocks of their own. -/
def Two {α β : Type} (d : Kd α) (e : TypeId) (d' : Kd β) (e' : TypeId) (w : World) (B : Nat) (v : Value) (xs : List α) (v' : Value) (ys : List β) : Prop :=
  Own d e w B (fun _ => False) v xs ∧ Own d' e' w B (fun _ => False) v' ys ∧ ∀ k, v.ownBlock = some k → v'.ownBlock ≠ some k
section
variable {α β : Type} {d : Kd α} {e : TypeId} {d' : Kd β} {e' : TypeId} {w w1 w2 : World} {B : Nat} {v u v' u' : Value} {xs zs : List α} {ys : List β}
theorem Two.symm (h : Two d e d' e' w B v xs v' ys) : Two d' e' d e w B v' ys v xs := ⟨h.2.1, h.1, fun k hk hk' => h.2.2 k hk' hk⟩
theorem Two.below (h : Two d e d' e' w B v xs v' ys) (hb : Below w.heap.size w w1) : Two d e d' e' w1 B v xs v' ys := ⟨h.1.below hb, h.2.1.below hb, h.2.2⟩
/-- The first row has grown. -/
theorem Two.app (h : Two d e d' e' w B v xs v' ys) (ho : Own d e w1 B (fun _ => False) u zs) (hg : w.grownBy w1 v.ownBlock) (hat : At w v u) : Two d e d' e' w1 B u zs v' ys := by
  refine ⟨ho, h.2.1.step hg.size (fun k hk hl => ?_), fun k hk hk' => ?_⟩
  · rcases hk with hk | hk
    · exact hk.elim
    · exact hg.block k hl (fun e => h.2.2 k e.symm hk)
  · rcases hat with ha | ha
    · exact h.2.2 k (ha.symm.trans hk) hk'
    · have := ha k hk
      have := (h.2.1.lt k hk').2
      omega
theorem Two.grown (h : Two d e d' e' w B v xs v' ys) (hg : w.grownBy w1 v.ownBlock) (hB : B ≤ w.heap.size) : Below B w w1 :=
  (Below.refl _ _).grown hg hB (fun k hk => (h.1.lt k hk).1)
end
theorem below_from {B : Nat} {w wr w1 : World} (h : Below B w wr) (h' : Below B wr w1) : Below B w w1 := h.trans h'

theorem encode_az {v : Val} {z : Int} (hz : checkM v = z) (hl : (encodeM v).length ≤ 70368744177600) (hd : v.depth < 1000000000) {w : World} {F : Foot} {cs : List Value} (h : kVal.K w F v cs) :
    Calls Try.prog 12 #[.agg cs.toArray] w fun e w' => ∃ A c, e = .returned (.tuple #[.slice A (encodeM v).length c, .int .i64 z]) ∧ SL kU8 w' (fun k => w.heap.size ≤ k ∧ k < w'.heap.size) A c (encodeM v) ∧ Below w.heap.size w w' := by
  subst hz
  refine (encode_calls hd hl h).mono ?_
  rintro e w1 ⟨v', rfl, hown, hb⟩
  obtain ⟨A, c, rfl, hsl⟩ := hown.sl (F' := fun k => w.heap.size ≤ k ∧ k < w1.heap.size) (fun _ h _ => h.elim) (fun k hk => hown.lt k hk)
  exact ⟨A, c, rfl, hsl, hb⟩
theorem encode_am {v : Val} {z : Int} (hz : checkM v = z) {m : Nat} (hm : (encodeM v).length = m) (hl : m ≤ 70368744177600) (hd : v.depth < 1000000000) {w : World} {F : Foot} {cs : List Value} (h : kVal.K w F v cs) :
    Calls Try.prog 12 #[.agg cs.toArray] w fun e w' => ∃ A c, e = .returned (.tuple #[.slice A m c, .int .i64 z]) ∧ SL kU8 w' (fun k => w.heap.size ≤ k ∧ k < w'.heap.size) A c (encodeM v) ∧ Below w.heap.size w w' := by
  subst hm; exact encode_az hz hl hd h
theorem kLm {w : World} {F : Foot} {A : Option Addr} {c : Nat} {l : List Val} (h : SL kVal w F A c l) {m : Nat} (hm : l.length = m) : kVal.K w F ⟨3, 0, empty, l⟩ [.int .i64 3, .int .i64 0, .string ⟨#[]⟩, .slice A m c] := by subst hm; exact kL h
theorem zeros_depth (n : Nat) : (⟨3, 0, empty, List.replicate n zeroV⟩ : Val).depth < 1000000000 := by have := (checkM_ok (check_zeros n)).2; omega
theorem size_az {v : Val} {z : Int} (hz : checkM v = z) {m : Nat} (hm : (encodeM v).length = m) (hl : m ≤ 70368744177600) (hd : v.depth < 1000000000) {w : World} {F : Foot} {cs : List Value} (h : kVal.K w F v cs) :
    Calls Try.prog 14 #[.agg cs.toArray] w fun e w' => e = .returned (.tuple #[.int .i64 m, .int .i64 z]) ∧ Below w.heap.size w w' := by
  subst hz; subst hm
  exact size_calls hd hl h
theorem encL_small {l : List Val} (h : ∀ x ∈ l, Small x 200 21 ∧ x.ok) : (encL l).length ≤ 60000 * l.length := by
  induction l with
  | nil => simp [encL]
  | cons y t ih =>
    simp only [encL, List.length_append, List.length_cons]
    have h1 := ih (fun x hx => h x (List.mem_cons_of_mem _ hx))
    have h2 := enc_len y (h y List.mem_cons_self).2
    have h3 := (h y List.mem_cons_self).1.1
    omega
theorem list_depth {l : List Val} (h : ∀ x ∈ l, Small x 200 21 ∧ x.ok) : (⟨3, 0, empty, l⟩ : Val).depth < 1000000000 := by
  simp only [Val.depth, if_true]
  have : depthL l ≤ 21 := depthL_le.2 (fun x hx => (h x hx).1.2)
  omega
theorem ok_of_SL {w : World} {F : Foot} {A : Option Addr} {c : Nat} {l : List Val} (h : SL kVal w F A c l) : ∀ x ∈ l, x.ok := fun x hx => by
  obtain ⟨i, hi, rfl⟩ := List.getElem_of_mem hx
  obtain ⟨_, cs, _, _, _, hK, _⟩ := h.row.at_ hi
  exact ok_of_K _ cs hK

theorem enc_list_drop {l : List Val} (h : checkM ⟨3, 0, empty, l⟩ = 0) {K : Nat} (hK : 1 + (numeral l.length).length = K) : (encodeM ⟨3, 0, empty, l⟩).drop K = encL l := by
  subst hK
  rw [size_list h, Nat.add_comm, List.drop_succ_cons, List.drop_left]
theorem sl_tail {w : World} {F : Foot} {A : Option Addr} {c K : Nat} {xs ys : List UInt8} (h : SL kU8 w F A c xs) (hd : xs.drop K = ys) (hK : K ≤ xs.length) (hc : ¬ c = K) : SL kU8 w F (Option.map (fun x => x.add K) A) (c - K) ys := by
  have := h.drop hK
  rw [if_neg hc, hd, show kU8.sz = 1 from rfl, Nat.mul_one] at this
  exact this
theorem sl_tail0 {w : World} {F : Foot} {A : Option Addr} {K : Nat} {xs ys : List UInt8} (h : SL kU8 w F A K xs) (hd : xs.drop K = ys) (hK : K ≤ xs.length) : SL kU8 w F A 0 ys := by
  have := h.drop hK
  rw [if_pos rfl, hd, Nat.sub_self] at this
  exact this
set_option maxRecDepth 100000 in
set_option maxHeartbeats 4000000 in
/-- CodecLists answers true. -/
theorem lists_calls {l : List Val} {w : World} {F : Foot} {A : Option Addr} {c : Nat} (h : SL kVal w F A c l) :
    Calls Try.prog 8 #[.slice A l.length c] w (Gives (.bool true) w) := by
  have hll := Nat.le_trans h.le h.max
  unfold maxLen at hll
  have HS := Lib.hid h
  have HOK := Lib.hid (ok_of_SL h)
  clear h
  go_enter Try.func8, Try.ntmps8
  go_wp2_with fail
  refine sane_calls.mono ?_
  rintro e w1 ⟨rfl, hb1⟩
  go_wp2_with fail
  refine (few_calls (HS.out.below hb1)).mono ?_
  rintro e w2 ⟨q, rfl, hsm, hb2⟩
  have HB2 : Below w.heap.size w w2 := below_then hb1 hb2
  cases q
  · go_wp2
    go_ret
    exact ⟨rfl, HB2⟩
  by_cases h20 : 20 < l.length
  · go_wp2
    go_ret
    exact ⟨rfl, HB2⟩
  have HSM : Hid (∀ x ∈ l, Small x 200 21 ∧ x.ok) := fun x hx => ⟨hsm rfl x hx, HOK.out x hx⟩
  have HLEN : Hid ((encL l).length ≤ 1200000) := by have := encL_small HSM.out; show (encL l).length ≤ 1200000; omega
  clear hsm hb1 hb2
  go_wp2_with fail
  go_loopw [3, 4, 5, 31] (fun v3 v4 v5 i' wr => ∃ i : Nat, i' = .int .i64 i ∧ i ≤ l.length ∧ v5 = .int .i64 ((encL (l.take i)).length : Nat) ∧ Hid (Two kU8 5 kVal 24 wr w.heap.size v3 (encL (l.take i)) v4 (List.replicate i zeroV)) ∧ Hid (∀ x ∈ l.take i, checkM x = 0) ∧ Below w.heap.size w wr) (fun _ _ _ i' _ => l.length - (intOf i').toNat)
  case atStart => exact ⟨0, rfl, Nat.zero_le _, rfl, Lib.hid ⟨Own.nil, Own.nil, fun k hk => by simp [Value.ownBlock] at hk⟩, Lib.hid (by simp), HB2⟩
  case round =>
    obtain ⟨i, rfl, hi, rfl, htw, hck, hb⟩ := hrel
    clear HB2
    by_cases hin : i < l.length
    · obtain ⟨ad, A1, c1, rfl, g0, g1, g2, g3, hK⟩ := val_at (HS.out.below hb) hin
      have HK := Lib.hid hK
      have hmem := List.getElem_mem hin
      have HX := Lib.hid (HSM.out _ hmem)
      have HM := Lib.hid hmem
      obtain ⟨z, hz⟩ : ∃ z, checkM l[i] = z := ⟨_, rfl⟩
      have hcz := checkM_cases l[i]
      rw [hz] at hcz
      have HZ := Lib.hid hz
      have HCZ := Lib.hid hcz
      have HV := Lib.hid (VC.new wr l[i].kind l[i].n l[i].s (.slice A1 l[i].l.length c1))
      have hEl := encL_take_le l i
      have hE1 : (encL (l.take i)).length ≤ 1200000 := Nat.le_trans hEl HLEN.out
      have hm1 := Small.len HX.out.1 HX.out.2
      have hm2 : (encodeM l[i]).length ≤ 100000 := by have := small_len HX.out.2 HX.out.1; omega
      have Hm1 := Lib.hid hm1
      have hszr := hb.size
      have hszw : w.heap.size ≤ wr.heap.size := hszr
      clear hK hz hcz hmem hEl hm1 hszr
      go_wp2_with fail
      refine (encode_az HZ.out Hm1.out HX.out.1.depth (Kd.below HK.out (below_box (Below.refl _ _) _))).mono ?_
      rintro e w3 ⟨A3, c3, rfl, hsl3, hb3⟩
      have Hsl3 := Lib.hid hsl3
      obtain ⟨⟨f1, f2, f3, f4⟩, _⟩ := (HV.out.below hb3).facts
      clear hsl3 g0 g1 g2 g3
      go_wp2_with fail
      refine (size_az HZ.out rfl Hm1.out HX.out.1.depth (Kd.below HK.out (below_then (below_box (Below.refl _ _) _) hb3))).mono ?_
      rintro e w4 ⟨rfl, hb4⟩
      have HB4 : Below wr.heap.size wr w4 := below_then (below_then (below_box (Below.refl _ _) _) hb3) hb4
      have Hs4 := Lib.hid (Hsl3.out.below hb4)
      clear f1 f2 f3 f4 hb3 hb4 HV Hsl3
      rcases HCZ.out with hz | hz | hz
      case' inl =>
        subst hz
        have hby : Hid (((encL (l.take i)).length + (encodeM l[i]).length) * 1 ≤ 140737488355328) := by show ((encL (l.take i)).length + (encodeM l[i]).length) * 1 ≤ 140737488355328; omega
        have hB4 : Hid (w.heap.size ≤ w4.heap.size) := Nat.le_trans hszw HB4.size
        go_wp2_with (at_builtin; refine wpList_apps rfl (.tmp 68) (.tmp 69) _ rfl E_u8 (htw.out.below HB4).1 rfl A3 c3 rfl Hs4.out.row (fun _ _ _ h => h) (fun _ h => h.elim) hby.out (by decide) hB4.out ?_; intro v6 w6 hown6 hg6 hat6)
        have htw6 := Lib.hid ((htw.out.below HB4).app hown6 hg6 hat6)
        have HB6 : Hid (Below w.heap.size w4 w6) := (htw.out.below HB4).grown hg6 hB4.out
        clear hown6 hg6 hat6
        refine Int_calls.mono ?_
        rintro e w7 ⟨rfl, hb7⟩
        have htw7 := Lib.hid (htw6.out.below (below_box hb7 (.cells #[.int .i64 1, .int .i64 0, .string ⟨#[]⟩, .slice none 0 0] 24)))
        have hby2 : Hid (((List.replicate i zeroV).length + 1) * 56 ≤ 140737488355328) := by show ((List.replicate i zeroV).length + 1) * 56 ≤ 140737488355328; rw [List.length_replicate]; omega
        have hB7 : Hid (w.heap.size ≤ (w7.alloc (.cells #[.int .i64 1, .int .i64 0, .string ⟨#[]⟩, .slice none 0 0] 24)).heap.size) := by show w.heap.size ≤ _; have h1 := hB4.out; have h2 := HB6.out.size; have h3 := hb7.size; rw [World.size_alloc]; omega
        go_wp2_with (at_builtin; refine wpList_app1 rfl (.tmp 71) (.tmp 73) _ rfl E_val zeroV [.int .i64 1, .int .i64 0, .string ⟨#[]⟩, .slice none 0 0] htw7.out.2.1 rfl ⟨w7.heap.size, 0, none⟩ 1 rfl (kI _ _ i64_0) (cell_newN w7 _ _) (fun _ h => h.elim) hby2.out (by decide) hB7.out ?_; intro v8 w8 hown8 hg8 hat8)
        have htw8 := Lib.hid (htw7.out.symm.app hown8 hg8 hat8).symm
        have HB8 : Hid (Below w.heap.size (w7.alloc (.cells #[.int .i64 1, .int .i64 0, .string ⟨#[]⟩, .slice none 0 0] 24)) w8) := htw7.out.symm.grown hg8 hB7.out
        clear hown8 hg8 hat8
        go_roundw
        case rel =>
          have hM : encodeM l[i] = enc l[i] := encodeM_of HZ.out
          refine ⟨i + 1, by go_num, by omega, ?_, ?_, ?_, ?_⟩
          · rw [encL_take hin, List.length_append, ← hM]; go_num
          · show Two kU8 5 kVal 24 w8 w.heap.size v6 (encL (l.take (i + 1))) v8 (List.replicate (i + 1) zeroV)
            rw [encL_take hin, ← hM, List.replicate_succ']
            exact htw8.out
          · intro x hx
            rw [take_snoc l hin] at hx
            rcases List.mem_append.1 hx with hx | hx
            · exact hck.out x hx
            · rw [List.mem_singleton.1 hx]; exact HZ.out
          · exact hb.trans ((HB4.mono hszw).trans (HB6.out.trans (((below_box hb7 _).mono (Nat.le_trans hB4.out HB6.out.size)).trans HB8.out)))
        case measure => simp [intOf]; omega
      all_goals
        have HBAD : Hid (checkM ⟨3, 0, empty, l⟩ ≠ 0) := check_list_bad HM.out (by rw [HZ.out, hz]; decide)
        subst hz
        go_wp2_with fail
        refine List_calls.mono ?_
        rintro e w5 ⟨rfl, hb5⟩
        obtain ⟨zl, hzl⟩ : ∃ z, checkM ⟨3, 0, empty, l⟩ = z := ⟨_, rfl⟩
        have HZL := Lib.hid hzl
        have hcl := checkM_cases ⟨3, 0, empty, l⟩
        rw [hzl] at hcl
        have HCL := Lib.hid hcl
        clear hcl hzl
        go_wp2_with fail
        refine (encode_az HZL.out (by rw [encodeM_bad HBAD.out]; simp) (list_depth HSM.out) (kL (HS.out.below (below_then hb (below_then HB4 hb5))))).mono ?_
        rintro e w6 ⟨A6, c6, rfl, _, hb6⟩
        have HBF : Hid (Below w.heap.size w w6) := below_then hb (below_then (below_then HB4 hb5) hb6)
        rcases HCL.out with h0 | h0 | h0
        · exact absurd (HZL.out.trans h0) HBAD.out
        · subst h0; go_wp2; go_ret; exact ⟨rfl, HBF.out⟩
        · subst h0; go_wp2; go_ret; exact ⟨rfl, HBF.out⟩
    · obtain rfl : i = l.length := by omega
      have htw' := htw.out
      have hck' := hck.out
      rw [List.take_length] at htw' hck'
      obtain ⟨A3, c3, hv3, hsl3⟩ := htw'.1.sl_all
      obtain ⟨A4, c4, hv4, hsl4⟩ := htw'.2.1.sl_all
      rw [List.length_replicate] at hv4
      subst hv3
      subst hv4
      have HCK := Lib.hid hck'
      have Hsl3 := Lib.hid hsl3
      have Hsl4 := Lib.hid hsl4
      rw [List.take_length]
      obtain ⟨E, hE⟩ : ∃ E, (encL l).length = E := ⟨_, rfl⟩
      have hE1 := HLEN.out
      rw [hE] at hE1 ⊢
      have HE := Lib.hid hE
      obtain ⟨K, hK⟩ : ∃ K, 1 + (numeral l.length).length = K := ⟨_, rfl⟩
      have hK1 : 2 ≤ K := by have := numeral_pos l.length; omega
      have hK2 : K ≤ 11 := by have := numeral_le10 (u := l.length) (by omega); omega
      have HKK := Lib.hid hK
      clear hck' hsl3 hsl4 htw' htw hE hK
      go_wp2_with fail
      refine List_calls.mono ?_
      rintro e w5 ⟨rfl, hb5⟩
      obtain ⟨zl, hzl⟩ : ∃ z, checkM ⟨3, 0, empty, l⟩ = z := ⟨_, rfl⟩
      have HZL := Lib.hid hzl
      have hcl := check_list_ok HCK.out
      rw [hzl] at hcl
      have HCL := Lib.hid hcl
      clear hcl hzl
      rcases HCL.out with h0 | h0
      · subst h0
        have HML : Hid ((encodeM ⟨3, 0, empty, l⟩).length = K + E) := by show (encodeM ⟨3, 0, empty, l⟩).length = K + E; rw [size_list HZL.out, List.length_cons, List.length_append, HE.out, ← HKK.out]; omega
        go_wp2_with fail
        refine (encode_am HZL.out HML.out (by omega) (list_depth HSM.out) (kL (HS.out.below (below_then hb hb5)))).mono ?_
        rintro e w6 ⟨A6, c6, rfl, hsl6, hb6⟩
        have hle6 := hsl6.le
        have hmx6 := hsl6.max
        rw [HML.out] at hle6
        unfold maxLen at hmx6
        have Hsl6 := Lib.hid hsl6
        clear hsl6
        go_wp2_with fail
        refine List_calls.mono ?_
        rintro e w7 ⟨rfl, hb7⟩
        have HB7 : Hid (Below wr.heap.size wr w7) := below_then (below_then hb5 hb6) hb7
        have HMZ : Hid ((encodeM ⟨3, 0, empty, List.replicate l.length zeroV⟩).length = K + 2 * l.length) := by show (encodeM ⟨3, 0, empty, List.replicate l.length zeroV⟩).length = K + 2 * l.length; rw [size_zeros, HKK.out]
        go_wp2_with fail
        refine (size_az (check_zeros l.length) HMZ.out (by omega) (zeros_depth _) (kLm (Hsl4.out.below HB7.out) List.length_replicate)).mono ?_
        rintro e w8 ⟨rfl, hb8⟩
        go_wp2_with fail
        have w1 : IntKind.i64.wrap (2 * (l.length : Int)) = 2 * (l.length : Int) := IntWalk.i64_in _ (by omega)
        have w2 : IntKind.i64.wrap ((K : Int) + 2 * (l.length : Int) - 2 * (l.length : Int)) = (K : Int) := by rw [IntWalk.i64_in _ (by omega)]; omega
        have w3 : IntKind.i64.wrap (K : Int) = (K : Int) := IntWalk.i64_in _ (by omega)
        have w4 : IntKind.i64.wrap ((K : Int) + (E : Int)) = (K : Int) + (E : Int) := IntWalk.i64_in _ (by omega)
        have hb1 : (K : Int) ≤ (K : Int) + (E : Int) := by omega
        have hb2 : (2 : Int) ≤ (K : Int) := by omega
        have HB8 : Hid (Below w.heap.size w w8) := below_then hb (below_then HB7.out hb8)
        have Hs3 := Lib.hid (Hsl3.out.below (below_then HB7.out hb8))
        have Hs6 := Lib.hid (Hsl6.out.below (below_then hb7 hb8))
        clear hb7 hb8 hb6 hb5 hb HB7
        by_cases hcK : c6 = K
        · subst hcK
          obtain rfl : E = 0 := by omega
          have KEEP0 : ∀ w', Below w8.heap.size w8 w' → (fun w' => Below w8.heap.size w8 w' ∧ (convert 27 9 (.slice A3 0 c3)).run Try.prog w' = .ok (.string ⟨(encL l).toArray⟩) w' ∧ (convert 27 9 (.slice A6 0 0)).run Try.prog w' = .ok (.string ⟨(encL l).toArray⟩) w') w' := fun w' hb => ⟨hb, SL.str (Hs3.out.below hb) HE.out.symm, SL.str (sl_tail0 (Hs6.out.below hb) (enc_list_drop HZL.out HKK.out) (by rw [HML.out]; omega)) HE.out.symm⟩
          have KEEP1 := Lib.hid (KEEP0 _ (below_drew (Below.refl _ _)))
          clear KEEP0
          go_region_held3 (fun w' => Below w8.heap.size w8 w' ∧ (convert 27 9 (.slice A3 0 c3)).run Try.prog w' = .ok (.string ⟨(encL l).toArray⟩) w' ∧ (convert 27 9 (.slice A6 0 0)).run Try.prog w' = .ok (.string ⟨(encL l).toArray⟩) w') (first | exact KEEP1.out | assumption) (fail)
          all_goals (go_wp2; go_ret; exact ⟨by simp, below_then HB8.out (And.left (by assumption))⟩)
        · have KEEP0 : ∀ w', Below w8.heap.size w8 w' → (fun w' => Below w8.heap.size w8 w' ∧ (convert 27 9 (.slice A3 E c3)).run Try.prog w' = .ok (.string ⟨(encL l).toArray⟩) w' ∧ (convert 27 9 (.slice (Option.map (fun x => x.add K) A6) E (c6 - K))).run Try.prog w' = .ok (.string ⟨(encL l).toArray⟩) w') w' := fun w' hb => ⟨hb, SL.str (Hs3.out.below hb) HE.out.symm, SL.str (sl_tail (Hs6.out.below hb) (enc_list_drop HZL.out HKK.out) (by rw [HML.out]; omega) hcK) HE.out.symm⟩
          have KEEP1 := Lib.hid (KEEP0 _ (below_drew (Below.refl _ _)))
          clear KEEP0
          go_region_held3 (fun w' => Below w8.heap.size w8 w' ∧ (convert 27 9 (.slice A3 E c3)).run Try.prog w' = .ok (.string ⟨(encL l).toArray⟩) w' ∧ (convert 27 9 (.slice (Option.map (fun x => x.add K) A6) E (c6 - K))).run Try.prog w' = .ok (.string ⟨(encL l).toArray⟩) w') (first | exact KEEP1.out | assumption) (fail)
          all_goals (go_wp2; go_ret; exact ⟨by simp, below_then HB8.out (And.left (by assumption))⟩)
      · subst h0
        go_wp2_with fail
        refine (encode_az HZL.out (by rw [encodeM_bad (by rw [HZL.out]; decide)]; simp) (list_depth HSM.out) (kL (HS.out.below (below_then hb hb5)))).mono ?_
        rintro e w6 ⟨A6, c6, rfl, _, hb6⟩
        have HBF : Hid (Below w.heap.size w w6) := below_then hb (below_then hb5 hb6)
        go_wp2
        go_ret
        exact ⟨rfl, HBF.out⟩
end Go.Proofs.Ytpmokmhakdkpdaa.B
