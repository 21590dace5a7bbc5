import Derived.Test.YtpmokmhakdkpdaaRefA
import Derived.Test.YtpmokmhakdkpdaaRefB
import Derived.Test.YtpmokmhakdkpdaaEncPure
import Derived.Test.YtpmokmhakdkpdaaOwnStr
import Derived.Deep.RegionHeld3
namespace Go.Proofs.Ytpmokmhakdkpdaa.B
set_option linter.unusedSimpArgs false
set_option linter.unusedVariables false
open Go.RowKit

theorem num64 {u : Nat} (h : u < 18446744073709551616) : u < 128 ^ (9 + 1) := Nat.lt_trans h (by decide)
theorem zig64 {n : Int} (h : I64 n) : zig n < 18446744073709551616 := by obtain ⟨h1, h2⟩ := h; exact zig_lt h1 h2
theorem own_lit_block {w : World} {n c : Nat} {B : Nat} (hB : B ≤ w.heap.size) : ∀ k, (Value.slice (some ⟨w.heap.size, 0, none⟩) n c).ownBlock = some k → B ≤ k := fun k hk => by
  have : w.heap.size = k := by simpa [Value.ownBlock] using hk
  omega

set_option maxRecDepth 100000 in
set_option maxHeartbeats 2000000 in
theorem rencode_int {w : World} {n : Int} {s : ByteArray} {l : Value} (hn : I64 n) :
    Calls Try.prog 27 #[.agg #[.int .i64 1, .int .i64 n, .string s, l]] w (FreshR (1 :: numeral (zig n)) w) := by
  have hz := Lib.hid (zig64 hn)
  have hL : Hid (([1] : List UInt8).length + (numeral (zig n)).length ≤ 100) := by
    have := numeral_le10 hz.out
    show ([1] : List UInt8).length + (numeral (zig n)).length ≤ 100
    simp; omega
  have HN := Lib.hid hn
  clear hn
  have hO := OwnB.lit1 (w.alloc (.cells #[.int .i64 1, .int .i64 n, .string s, l] 24)) 1 (n := 1) rfl
  rw [World.size_alloc] at hO
  have HO := Lib.hid hO
  clear hO
  go_enter Try.func27, Try.ntmps27
  go_wp2_with (first | (go_at_call 43; refine (runsigned_calls HN.out.1 HN.out.2).mono ?_; rintro e w1 ⟨rfl, rfl⟩) | (go_at_call 42; refine (rnumeral_calls 9 _ (num64 hz.out) hz.out _).mono ?_; rintro e w1 ⟨v1, rfl, hown1, hb1⟩; obtain ⟨A1, c1, rfl, hsl1⟩ := hown1.sl_all) | (at_builtin; (refine wpList_apps rfl (.tmp 9) (.tmp 13) _ rfl E_u8 (HO.out.below hb1) rfl A1 c1 rfl hsl1.row (fun _ _ _ h => h) (fun _ h => h.elim) ?zc (by decide) ?zb ?_; (case zc => have := hL.out; omega); (case zb => have := hb1.size; simp at this; simp; omega); intro v2 w2 hown2 hg2 hat2)))
  go_ret
  exact ⟨v2, rfl, hown2.lower (Nat.le_succ _), below_grown_new (below_then (by (with_reducible repeat (first | exact Below.refl _ _ | assumption | refine below_drew ?_ | refine below_drewN ?_ _ | refine below_box ?_ _))) hb1) hg2 (fun k hk => by have := hown2.lt; simp [Value.ownBlock] at hk; omega) (by have := hb1.size; simp at this; omega)⟩

set_option maxRecDepth 100000 in
set_option maxHeartbeats 2000000 in
theorem rencode_text {w : World} {n : Int} {s : ByteArray} {l : Value} (hs : s.size ≤ 70368744177600) :
    Calls Try.prog 27 #[.agg #[.int .i64 2, .int .i64 n, .string s, l]] w (FreshR (2 :: (numeral s.size ++ s.data.toList)) w) := by
  have hwr : IntKind.u64.wrap (s.size : Int) = (s.size : Int) := by rw [IntKind.wrap_u64]; omega
  have hz : Hid (s.size < 18446744073709551616) := by show s.size < 18446744073709551616; omega
  have hL : Hid (([2] : List UInt8).length + (numeral s.size).length + s.size ≤ 140737488355328) := by
    have := numeral_le10 hz.out
    show ([2] : List UInt8).length + (numeral s.size).length + s.size ≤ 140737488355328
    simp; omega
  clear hs
  have HV := Lib.hid (VC.new w 2 n s l)
  have hO := OwnB.lit1 (w.alloc (.cells #[.int .i64 2, .int .i64 n, .string s, l] 24)) 2 (n := 2) rfl
  rw [World.size_alloc] at hO
  have HO := Lib.hid hO
  clear hO
  go_enter Try.func27, Try.ntmps27
  go_wp2_with fail
  refine wp_region_held_drew (S := fun w' => (w'.cell? ⟨w.heap.size, 0, none⟩ = some (.int .i64 2) ∧ w'.cell? ⟨w.heap.size, 1, none⟩ = some (.int .i64 n) ∧ w'.cell? ⟨w.heap.size, 2, none⟩ = some (.string s) ∧ w'.cell? ⟨w.heap.size, 3, none⟩ = some (l))) rfl HV.out.facts.1 (fun hHeld => ?_)
  refine wpAnyH_take (i := 1) (v := ?_) rfl (by kernel_rfl) (by kernel_rfl) (by kernel_rfl) (fun _ _ _ h => h) (Or.inl ⟨by rfl, ?_⟩) (by assumption) ?_
  rotate_left
  · intro w hSw
    (try dsimp only at hSw)
    go_simp
    (try with_reducible rfl)
  simp only [Act.put, List.setIfInBounds_toArray, List.set_cons_zero, List.set_cons_succ]
  refine wpAnyH_take (i := 2) (v := ?_) rfl (by kernel_rfl) (by kernel_rfl) (by kernel_rfl) (fun _ _ _ h => h) (Or.inl ⟨by rfl, ?_⟩) (by assumption) ?_
  rotate_left
  · intro w hSw
    (try dsimp only at hSw)
    go_simp
    (try with_reducible rfl)
  simp only [Act.put, List.setIfInBounds_toArray, List.set_cons_zero, List.set_cons_succ]
  refine wpAnyH_take (i := 3) (v := ?_) rfl (by kernel_rfl) (by kernel_rfl) (by kernel_rfl) (fun _ _ _ h => h) (Or.inl ⟨by rfl, ?_⟩) (by assumption) ?_
  rotate_left
  · intro w hSw
    (try dsimp only at hSw)
    go_simp
    (try with_reducible rfl)
  simp only [Act.put, List.setIfInBounds_toArray, List.set_cons_zero, List.set_cons_succ]
  refine wpAnyH_take (i := 4) (v := ?_) rfl (by kernel_rfl) (by kernel_rfl) (by kernel_rfl) (fun _ _ _ h => h) (Or.inl ⟨by rfl, ?_⟩) (by assumption) ?_
  rotate_left
  · intro w hSw
    (try dsimp only at hSw)
    go_simp
    (try with_reducible rfl)
  simp only [Act.put, List.setIfInBounds_toArray, List.set_cons_zero, List.set_cons_succ]
  refine wpAnyH_take (i := 7) (v := ?_) rfl (by kernel_rfl) (by kernel_rfl) (by kernel_rfl) (fun _ _ _ h => h) (Or.inl ⟨by rfl, ?_⟩) (by assumption) ?_
  rotate_left
  · intro w hSw
    (try dsimp only at hSw)
    go_simp
    (try with_reducible rfl)
  simp only [Act.put, List.setIfInBounds_toArray, List.set_cons_zero, List.set_cons_succ]
  refine wpAnyH_take (i := 8) (v := ?_) rfl (by kernel_rfl) (by kernel_rfl) (by kernel_rfl) (fun _ _ _ h => h) (Or.inl ⟨by rfl, ?_⟩) (by assumption) ?_
  rotate_left
  · intro w hSw
    (try dsimp only at hSw)
    go_simp
    (try with_reducible rfl)
  simp only [Act.put, List.setIfInBounds_toArray, List.set_cons_zero, List.set_cons_succ]
  refine wpAnyH_ready (rs := [0, 5]) (by kernel_rfl) (by simp) (AllReadyH.cons rfl (fun K hK => ?_) (AllReadyH.cons rfl (fun K hK => ?_) AllReadyH.nil))
  · go_simp
    refine hK.out _ _ ?_ (fun hHeld => ?_)
    · exact (HV.out.below (by (with_reducible repeat (first | exact Below.refl _ _ | assumption | refine below_drew ?_ | refine below_drewN ?_ _ | refine below_box ?_ _)))).facts.1
    clear hK K
    try simp only [Act.put, List.setIfInBounds_toArray, List.set_cons_zero, List.set_cons_succ]
    refine wpAnyH_ready (rs := [5]) (by kernel_rfl) (by simp) (AllReadyH.cons rfl (fun K hK => ?_) AllReadyH.nil)
    go_simp
    refine (rnumeral_calls 9 _ (num64 hz.out) hz.out _).mono ?_
    rintro e w1 ⟨v1, rfl, hown1, hb1⟩
    have HB1 : Below (w.alloc (.cells #[.int .i64 2, .int .i64 n, .string s, l] 24)).heap.size (w.alloc (.cells #[.int .i64 2, .int .i64 n, .string s, l] 24)) w1 := below_then (by (with_reducible repeat (first | exact Below.refl _ _ | assumption | refine below_drew ?_ | refine below_drewN ?_ _ | refine below_box ?_ _))) hb1
    have hz1 := HB1.size
    rw [World.size_alloc] at hz1
    obtain ⟨A1, c1, rfl, hsl1⟩ := hown1.sl_all
    go_simp
    refine hK.out _ _ ?_ (fun hHeld => ?_)
    · exact (HV.out.below HB1).facts.1
    clear hK K
    try simp only [Act.put, List.setIfInBounds_toArray, List.set_cons_zero, List.set_cons_succ]
    refine wpAnyH_ready (rs := [6]) (by kernel_rfl) (by simp) (AllReadyH.cons rfl (fun K hK => ?_) AllReadyH.nil)
    refine step_apps rfl (.tmp 17) (.tmp 22) _ rfl E_u8 (HO.out.below (below_then (below_drew (Below.refl _ _)) hb1)) rfl A1 c1 rfl hsl1.row (fun _ _ _ h => h) (fun _ h => h.elim) ?zc (by decide) ?zb ?_
    case zc => have := hL.out; omega
    case zb => omega
    intro v2 w2 hown2 hg2 hat2
    have HB2 : Below (w.alloc (.cells #[.int .i64 2, .int .i64 n, .string s, l] 24)).heap.size (w.alloc (.cells #[.int .i64 2, .int .i64 n, .string s, l] 24)) w2 := below_grown_new HB1 hg2 (fun k hk => ?zd) (by rw [World.size_alloc]; exact hz1)
    case zd => have hk' : w.heap.size + 1 = k := (by simpa [Value.ownBlock] using hk); rw [World.size_alloc]; omega
    have hz2 := HB2.size
    rw [World.size_alloc] at hz2
    refine hK.out _ _ ?_ (fun hHeld => ?_)
    · exact (HV.out.below HB2).facts.1
    clear hK K
    try simp only [Act.put, List.setIfInBounds_toArray, List.set_cons_zero, List.set_cons_succ]
    refine wpAnyH_ready (rs := [9]) (by kernel_rfl) (by simp) (AllReadyH.cons rfl (fun K hK => ?_) AllReadyH.nil)
    refine step_appstr rfl (.tmp 23) (.tmp 25) _ _ rfl Try.underlying27 Try.underlying9 (info_parts info_u8) hown2 rfl s rfl (fun _ h => h.elim) ?ze ?zf ?_
    case ze => have := hL.out; rw [List.length_append]; omega
    case zf => omega
    intro v3 w3 hown3 hg3 hat3
    have HB3 : Below (w.alloc (.cells #[.int .i64 2, .int .i64 n, .string s, l] 24)).heap.size (w.alloc (.cells #[.int .i64 2, .int .i64 n, .string s, l] 24)) w3 := below_grown_new HB2 hg3 (fun k hk => ?zg) (by rw [World.size_alloc]; exact hz2)
    case zg => rw [World.size_alloc]; exact (hown2.lt k hk).1
    refine hK.out _ _ ?_ (fun hHeld => ?_)
    · exact (HV.out.below HB3).facts.1
    clear hK K
    try simp only [Act.put, List.setIfInBounds_toArray, List.set_cons_zero, List.set_cons_succ]
    refine wpAnyH_ready (rs := [10]) (by kernel_rfl) (by simp) (AllReadyH.cons rfl (fun K hK => ?_) AllReadyH.nil)
    go_simp
    refine hK.out _ _ ?_ (fun hHeld => ?_)
    · exact (HV.out.below HB3).facts.1
    clear hK K
    try simp only [Act.put, List.setIfInBounds_toArray, List.set_cons_zero, List.set_cons_succ]
    refine wpAnyH_done (by kernel_rfl) ?_ _
    go_wp2
    go_ret
    exact ⟨v3, rfl, by have h := hown3.lower (Nat.le_succ _); rw [List.append_assoc] at h; exact h, below_then (by (with_reducible repeat (first | exact Below.refl _ _ | assumption | refine below_drew ?_ | refine below_drewN ?_ _ | refine below_box ?_ _))) HB3⟩
  · go_simp
    refine (rnumeral_calls 9 _ (num64 hz.out) hz.out _).mono ?_
    rintro e w1 ⟨v1, rfl, hown1, hb1⟩
    have HB1 : Below (w.alloc (.cells #[.int .i64 2, .int .i64 n, .string s, l] 24)).heap.size (w.alloc (.cells #[.int .i64 2, .int .i64 n, .string s, l] 24)) w1 := below_then (by (with_reducible repeat (first | exact Below.refl _ _ | assumption | refine below_drew ?_ | refine below_drewN ?_ _ | refine below_box ?_ _))) hb1
    have hz1 := HB1.size
    rw [World.size_alloc] at hz1
    obtain ⟨A1, c1, rfl, hsl1⟩ := hown1.sl_all
    go_simp
    refine hK.out _ _ ?_ (fun hHeld => ?_)
    · exact (HV.out.below HB1).facts.1
    clear hK K
    try simp only [Act.put, List.setIfInBounds_toArray, List.set_cons_zero, List.set_cons_succ]
    refine wpAnyH_ready (rs := [0]) (by kernel_rfl) (by simp) (AllReadyH.cons rfl (fun K hK => ?_) AllReadyH.nil)
    go_simp
    refine hK.out _ _ ?_ (fun hHeld => ?_)
    · exact (HV.out.below (below_box HB1 _)).facts.1
    clear hK K
    try simp only [Act.put, List.setIfInBounds_toArray, List.set_cons_zero, List.set_cons_succ]
    refine wpAnyH_ready (rs := [6]) (by kernel_rfl) (by simp) (AllReadyH.cons rfl (fun K hK => ?_) AllReadyH.nil)
    have hO1 := OwnB.lit1 w1 2 (n := 2) rfl
    refine step_apps rfl (.tmp 17) (.tmp 22) _ rfl E_u8 hO1 rfl A1 c1 rfl (hsl1.below (below_box (Below.refl _ _) _)).row (fun _ _ _ h => h) (fun _ h => h.elim) ?zc (by decide) ?zb ?_
    case zc => have := hL.out; omega
    case zb => simp
    intro v2 w2 hown2 hg2 hat2
    have HB2 : Below (w.alloc (.cells #[.int .i64 2, .int .i64 n, .string s, l] 24)).heap.size (w.alloc (.cells #[.int .i64 2, .int .i64 n, .string s, l] 24)) w2 := below_grown_new (below_box HB1 _) hg2 (fun k hk => ?zd) (by simp; omega)
    case zd => have hk' : w1.heap.size = k := (by simpa [Value.ownBlock] using hk); rw [World.size_alloc]; omega
    have hz2 := HB2.size
    rw [World.size_alloc] at hz2
    refine hK.out _ _ ?_ (fun hHeld => ?_)
    · exact (HV.out.below HB2).facts.1
    clear hK K
    try simp only [Act.put, List.setIfInBounds_toArray, List.set_cons_zero, List.set_cons_succ]
    refine wpAnyH_ready (rs := [9]) (by kernel_rfl) (by simp) (AllReadyH.cons rfl (fun K hK => ?_) AllReadyH.nil)
    refine step_appstr rfl (.tmp 23) (.tmp 25) _ _ rfl Try.underlying27 Try.underlying9 (info_parts info_u8) hown2 rfl s rfl (fun _ h => h.elim) ?ze ?zf ?_
    case ze => have := hL.out; rw [List.length_append]; omega
    case zf => have := hg2.size; simp at this; omega
    intro v3 w3 hown3 hg3 hat3
    have HB3 : Below (w.alloc (.cells #[.int .i64 2, .int .i64 n, .string s, l] 24)).heap.size (w.alloc (.cells #[.int .i64 2, .int .i64 n, .string s, l] 24)) w3 := below_grown_new HB2 hg3 (fun k hk => ?zg) (by rw [World.size_alloc]; exact hz2)
    case zg => rw [World.size_alloc]; exact Nat.le_trans hz1 (hown2.lt k hk).1
    refine hK.out _ _ ?_ (fun hHeld => ?_)
    · exact (HV.out.below HB3).facts.1
    clear hK K
    try simp only [Act.put, List.setIfInBounds_toArray, List.set_cons_zero, List.set_cons_succ]
    refine wpAnyH_ready (rs := [10]) (by kernel_rfl) (by simp) (AllReadyH.cons rfl (fun K hK => ?_) AllReadyH.nil)
    go_simp
    refine hK.out _ _ ?_ (fun hHeld => ?_)
    · exact (HV.out.below HB3).facts.1
    clear hK K
    try simp only [Act.put, List.setIfInBounds_toArray, List.set_cons_zero, List.set_cons_succ]
    refine wpAnyH_done (by kernel_rfl) ?_ _
    go_wp2
    go_ret
    exact ⟨v3, rfl, by have h := hown3.lower (B' := w.heap.size) (by omega); rw [List.append_assoc] at h; exact h, below_then (by (with_reducible repeat (first | exact Below.refl _ _ | assumption | refine below_drew ?_ | refine below_drewN ?_ _ | refine below_box ?_ _))) HB3⟩

set_option maxRecDepth 100000 in
set_option maxHeartbeats 2000000 in
theorem rencode_list {w : World} {F : Foot} {A : Option Addr} {c : Nat} {n : Int} {s : ByteArray} {l : List Val} (hsl : SL kVal w F A c l) (hlen : (enc ⟨3, n, s, l⟩).length ≤ 70368744177600)
    (ih : ∀ x ∈ l, ∀ (w : World) (F : Foot) (cs : List Value), kVal.K w F x cs → Calls Try.prog 27 #[.agg cs.toArray] w (FreshR (enc x) w)) :
    Calls Try.prog 27 #[.agg #[.int .i64 3, .int .i64 n, .string s, .slice A l.length c]] w (FreshR (enc ⟨3, n, s, l⟩) w) := by
  rw [enc_list, List.length_cons, List.length_append] at hlen
  have hll := Nat.le_trans hsl.le hsl.max
  unfold maxLen at hll
  have hwr : IntKind.u64.wrap (l.length : Int) = (l.length : Int) := by rw [IntKind.wrap_u64]; omega
  have hz : Hid (l.length < 18446744073709551616) := by show l.length < 18446744073709551616; omega
  have HL := Lib.hid hlen
  have HS := Lib.hid hsl
  have HIH := Lib.hid ih
  clear hlen hsl ih
  have HV := Lib.hid (VC.new w 3 n s (.slice A l.length c))
  have hO := OwnB.lit1 (w.alloc (.cells #[.int .i64 3, .int .i64 n, .string s, .slice A l.length c] 24)) 3 (n := 3) rfl
  rw [World.size_alloc] at hO
  have HO := Lib.hid hO
  clear hO
  go_enter Try.func27, Try.ntmps27
  go_upto_region 8 with (first | (go_at_call 42; refine (rnumeral_calls 9 _ (num64 hz.out) hz.out _).mono ?_; rintro e w1 ⟨v1, rfl, hown1, hb1⟩; obtain ⟨A1, c1, rfl, hsl1⟩ := hown1.sl_all) | (at_builtin; refine wpList_apps rfl (.tmp 27) (.tmp 32) _ rfl E_u8 (HO.out.below hb1) rfl A1 c1 rfl hsl1.row (fun _ _ _ h => h) (fun _ h => h.elim) ?zc (by decide) ?zb ?_; (case zc => have := HL.out; simp; omega); (case zb => have := hb1.size; simp at this; omega); intro v2 w2 hown2 hg2 hat2))
  have HB2 : Below (w.alloc (.cells #[.int .i64 3, .int .i64 n, .string s, .slice A l.length c] 24)).heap.size (w.alloc (.cells #[.int .i64 3, .int .i64 n, .string s, .slice A l.length c] 24)) w2 := below_grown_new (below_then (by (with_reducible repeat (first | exact Below.refl _ _ | assumption | refine below_drew ?_ | refine below_drewN ?_ _ | refine below_box ?_ _))) hb1) hg2 (fun k hk => ?zd) (by have := hb1.size; simp at this ⊢; omega)
  case zd => have hk' : w.heap.size + 1 = k := (by simpa [Value.ownBlock] using hk); rw [World.size_alloc]; omega
  have HO2 := Lib.hid hown2
  have HV2 := Lib.hid (HV.out.below HB2)
  have HBW : Hid (Below w.heap.size w w2) := below_then (by (with_reducible repeat (first | exact Below.refl _ _ | assumption | refine below_drew ?_ | refine below_drewN ?_ _ | refine below_box ?_ _))) HB2
  clear hown1 hb1 hsl1 hown2 hg2 hat2 HB2 HO HV
  go_loopw [3, 4] (fun b i' wr => ∃ i : Nat, i' = .int .i64 i ∧ i ≤ l.length ∧ Hid (OwnB wr (w.heap.size + 1) b ([3] ++ numeral l.length ++ encL (l.take i))) ∧ Hid (VC wr w.heap.size 3 n s (.slice A l.length c)) ∧ Hid (Below w.heap.size w wr)) (fun _ i' _ => l.length - (intOf i').toNat)
  case atStart => exact ⟨0, rfl, Nat.zero_le _, Lib.hid (by simpa [encL] using HO2.out), HV2, HBW⟩
  case round =>
    obtain ⟨i, rfl, hi, hO, hvc, hb⟩ := hrel
    clear HO2 HV2 HBW
    obtain ⟨⟨f1, f2, f3, f4⟩, _⟩ := hvc.out.facts
    by_cases hin : i < l.length
    · obtain ⟨ad, A2, c2, rfl, g0, g1, g2, g3, hK⟩ := val_at (HS.out.below hb.out) hin
      have HK := Lib.hid hK
      have hsum := encL_split hin
      have hby : Hid ((([3] ++ numeral l.length ++ encL (l.take i)).length + (enc l[i]).length) * 1 ≤ 140737488355328) := by
        have := HL.out
        show (([3] ++ numeral l.length ++ encL (l.take i)).length + (enc l[i]).length) * 1 ≤ 140737488355328
        simp only [List.length_append, List.length_cons, List.length_nil]
        omega
      have hsz : w.heap.size + 1 ≤ wr.heap.size := hvc.out.lt
      clear hK hsum
      go_wp2_with (first | (go_at_call 27; refine (HIH.out _ (List.getElem_mem hin) _ F _ HK.out).mono ?_; rintro e w3 ⟨v3, rfl, hown3, hb3⟩; obtain ⟨A3, c3, rfl, hsl3⟩ := hown3.sl_all) | (at_builtin; refine wpList_apps rfl (.tmp 41) (.tmp 47) _ rfl E_u8 (hO.out.below hb3) rfl A3 c3 rfl hsl3.row (fun _ _ _ h => h) (fun _ h => h.elim) hby.out (by decide) ?ze ?_; (case ze => have := hb3.size; omega); intro v4 w4 hown4 hg4 hat4))
      have hlo := hO.out.lt
      go_roundw
      case rel =>
        refine ⟨i + 1, by go_num, by omega, ?_, ?_, ?_⟩
        · rw [encL_take hin, ← List.append_assoc]; exact hown4
        · have h3 := hvc.out.below hb3
          exact ⟨(hg4.block _ h3.lt (fun e => by have := (hlo _ e.symm).1; omega)).trans h3.heap⟩
        · exact below_grown_new (below_then hb.out hb3) hg4 (fun k hk => by have := (hlo _ hk).1; omega) (by have := hb3.size; omega)
      case measure => simp [intOf]; omega
    · obtain rfl : i = l.length := by omega
      go_wp2
      go_ret
      have hr := hO.out
      rw [List.take_length, List.append_assoc] at hr
      exact ⟨_, rfl, by rw [enc_list]; exact hr.lower (Nat.le_succ _), hb.out⟩
/-- The reference's encode, of a well-formed value. -/
theorem rencode_calls : ∀ (v : Val), v.formed = true → (enc v).length ≤ 70368744177600 → ∀ (w : World) (F : Foot) (cs : List Value), kVal.K w F v cs → Calls Try.prog 27 #[.agg cs.toArray] w (FreshR (enc v) w) := by
  refine Val.ind (fun v ih => ?_)
  intro hf hl w F cs h
  obtain ⟨A, c, rfl, _, hn, hs, hsl⟩ := kVal_open h
  obtain ⟨k, n, s, l⟩ := v
  simp only at hn hs hsl ih ⊢
  rcases formed_kind hf with hk | hk | hk
  all_goals (simp only at hk; subst hk)
  · rw [enc_int]; exact rencode_int hn
  · rw [enc_text] at hl ⊢
    refine rencode_text ?_
    simp only [List.length_cons, List.length_append, Array.length_toList] at hl
    have : s.data.size = s.size := rfl
    omega
  · refine rencode_list hsl hl (fun x hx w F cs hK => ih x hx (formedL_all (formed_list_of hf).2.2 x hx) ?_ w F cs hK)
    rw [enc_list] at hl
    have := enc_le_of_mem hx
    simp only [List.length_cons, List.length_append] at hl
    omega
end Go.Proofs.Ytpmokmhakdkpdaa.B
