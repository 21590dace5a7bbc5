import Derived.Test.YtpmokmhakdkpdaaWriteA
import Derived.Test.YtpmokmhakdkpdaaWriteB
import Derived.Test.YtpmokmhakdkpdaaWriter
import Derived.Deep.DeepCutAuto
namespace Go.Proofs.Ytpmokmhakdkpdaa.B
open Go.RowKit

/-- What the writer of x's kind does: x's encoding is appended. -/
def EncC (x : Val) : Prop := ∀ (w : World) (B : Nat) (v : Value) (xs : List UInt8) (F : Foot) (cs : List Value) (ga gb : Nat), Writers w ga gb → v.ownBlock ≠ some ga → v.ownBlock ≠ some gb → OwnB w B v xs → kVal.K w F x cs →
  (∀ k, v.ownBlock = some k → ¬ F k) → (∀ k, F k → k < w.heap.size) → xs.length + (enc x).length ≤ 70368744177600 → B ≤ w.heap.size →
  (x.kind = 1 → Calls Try.prog 37 #[v, .agg cs.toArray] w (Appended w B v xs (enc x))) ∧
  (x.kind = 2 → Calls Try.prog 40 #[v, .agg cs.toArray] w (Appended w B v xs (enc x))) ∧
  (x.kind = 3 → Calls Try.prog 41 #[v, .agg cs.toArray, .pointer (some ⟨gb, 0, none⟩)] w (Appended w B v xs (enc x)))

set_option maxRecDepth 100000 in
set_option maxHeartbeats 2000000 in
theorem write3_calls {w : World} {B : Nat} {v : Value} {xs : List UInt8} {F : Foot} {n : Int} {s : ByteArray} {l : List Val} {cs : List Value} {ga gb : Nat} (hw : Writers w ga gb) (hna : v.ownBlock ≠ some ga) (hnb : v.ownBlock ≠ some gb) (h : OwnB w B v xs)
    (hx : kVal.K w F ⟨3, n, s, l⟩ cs) (hF : ∀ k, v.ownBlock = some k → ¬ F k) (hFl : ∀ k, F k → k < w.heap.size) (hl : xs.length + (enc ⟨3, n, s, l⟩).length ≤ 70368744177600) (hB : B ≤ w.heap.size) (ih : ∀ x ∈ l, x.formed = true ∧ EncC x) :
    Calls Try.prog 41 #[v, .agg cs.toArray, .pointer (some ⟨gb, 0, none⟩)] w (Appended w B v xs (enc ⟨3, n, s, l⟩)) := by
  obtain ⟨A, c, rfl, ⟨k1, k2⟩, ⟨n1, n2⟩, hs, hsl⟩ := kVal_open hx
  simp only at hsl
  rw [enc_list, List.length_cons, List.length_append] at hl
  have hll := hsl.le
  have hlm := hsl.max
  unfold maxLen at hlm
  have hwr : IntKind.u64.wrap (l.length : Int) = (l.length : Int) := by rw [IntKind.wrap_u64]; omega
  have HL := Lib.hid hl
  have HO := Lib.hid h
  have HB := Lib.hid hB
  have HW := Lib.hid hw
  have HS := Lib.hid hsl
  have HF := Lib.hid hF
  have HFl := Lib.hid hFl
  have HIH := Lib.hid ih
  have HNA := Lib.hid hna
  have HNB := Lib.hid hnb
  have hlen := hsl.max
  clear hlen hs hx k1 k2 n1 n2 hl h hB hw hsl hF hFl ih hna hnb
  go_enter Try.func41, Try.ntmps41
  go_wp2_with fail
  go_region_held3 (fun w' => w'.cell? ⟨w.heap.size, 3, none⟩ = some (.slice A l.length c)) (first | assumption | go_keep)
    (first
      | (refine step_app1 rfl (.tmp 8) (.tmp 9) _ rfl E_u8 3 [.int .u8 3] (HO.out.below ?b) rfl ⟨w.heap.size + 1, 0, none⟩ 1 rfl rfl ?k (fun _ h => h.elim) ?c1 (by decide) ?c2 ?_; (case b => (with_reducible repeat (first | exact Below.refl _ _ | assumption | refine below_drew ?_ | refine below_drewN ?_ _ | refine below_box ?_ _))); (case k => (have h := cell_new1 (w.alloc (.cells #[.int .i64 3, .int .i64 n, .string s, .slice A l.length c] 24)) (.int .u8 3) 5; simpa using h)); (case c1 => have := HL.out; omega); (case c2 => have := HB.out; simp; omega); intro v' w1 hown' hgrow hat'; have hcell := grown_newer (p := ⟨w.heap.size, 3, none⟩) HO.out.ltv hgrow (Nat.le_refl _) (u := .slice A l.length c) (by go_simp))
      | (go_at_call 38; refine (numeral_calls hown' (u := l.length) ?_ ?_ ?_).mono ?_; omega; (have := HL.out; rw [List.length_append]; simp; omega); (have h1 := HB.out; have h2 := hgrow.size; simp at h2; omega); rintro e w2 ⟨v2, rfl, hown2, hgrow2, hat2⟩; have hcell2 := grown_mid (p := ⟨w.heap.size, 3, none⟩) HO.out.ltv hat' (Nat.le_refl _) (by simp; omega) hgrow2 hcell))
  have HG : Hid (Grew w w2 v v2) := ((Grew.refl w v).app (by (with_reducible repeat (first | exact Below.refl _ _ | assumption | refine below_drew ?_ | refine below_drewN ?_ _ | refine below_box ?_ _))) hgrow hat').app (Below.refl _ _) hgrow2 hat2
  have HO2 : Hid (OwnB w2 B v2 (xs ++ (3 :: numeral l.length))) := by rw [List.append_assoc] at hown2; exact hown2
  clear hown' hgrow hat' hcell hown2 hgrow2 hat2
  go_wp2
  go_loopw [0, 19] (fun b i wr => ∃ k : Nat, k ≤ l.length ∧ i = .int .i64 k ∧ Hid (OwnB wr B b (xs ++ (3 :: numeral l.length) ++ encL (l.take k)) ∧ Grew w wr v b)) (fun _ i _ => l.length - (intOf i).toNat)
  case atStart => exact ⟨0, Nat.zero_le _, rfl, by simpa [encL] using HO2.out, HG.out⟩
  case round =>
    obtain ⟨k, hk, rfl, hrel⟩ := hrel
    clear HG HO2 hcell2
    by_cases hlt : k < l.length
    · obtain ⟨ad, A', c', rfl, h0, h1, h2, h3, hK⟩ := val_at (hrel.out.2.sl HF.out HS.out) hlt
      have hform := (HIH.out _ (List.getElem_mem hlt)).1
      have hE := (HIH.out _ (List.getElem_mem hlt)).2
      have HW' : Writers wr ga gb := HW.out.move (hrel.out.2.block (lt_of_heap HW.out.arr) HNA.out) (hrel.out.2.block (lt_of_heap HW.out.var) HNB.out)
      have hga : wr.heap.size ≠ ga := by have := lt_of_heap HW'.arr; omega
      have hgal := lt_of_heap HW'.arr
      have hgbl := lt_of_heap HW'.var
      have hsum := encL_split hlt
      have hcont := hE ((wr.alloc (.cells #[.int .i64 l[k].kind, .int .i64 l[k].n, .string l[k].s, .slice A' l[k].l.length c'] 24)).drew) B u0 (xs ++ (3 :: numeral l.length) ++ encL (l.take k)) F [.int .i64 l[k].kind, .int .i64 l[k].n, .string l[k].s, .slice A' l[k].l.length c'] ga gb
        (HW'.move (Below.heap_alloc _ _ _ hgal) (Below.heap_alloc _ _ _ hgbl)) (hrel.out.2.ne (lt_of_heap HW.out.arr) HNA.out) (hrel.out.2.ne (lt_of_heap HW.out.var) HNB.out) (hrel.out.1.below (by (with_reducible repeat (first | exact Below.refl _ _ | assumption | refine below_drew ?_ | refine below_drewN ?_ _ | refine below_box ?_ _)))) (Kd.below hK (by (with_reducible repeat (first | exact Below.refl _ _ | assumption | refine below_drew ?_ | refine below_drewN ?_ _ | refine below_box ?_ _)))) (hrel.out.2.foot HF.out HFl.out)
        (fun k hk => by have := HFl.out k hk; have := hrel.out.2.size; simp; omega) (by have := HL.out; simp only [List.length_append, List.length_cons] at *; omega) (by have := HB.out; have := hrel.out.2.size; simp; omega)
      have HNE : Hid (some ga ≠ u0.ownBlock ∧ some gb ≠ u0.ownBlock) := ⟨fun e => hrel.out.2.ne (lt_of_heap HW.out.arr) HNA.out e.symm, fun e => hrel.out.2.ne (lt_of_heap HW.out.var) HNB.out e.symm⟩
      have HC := Lib.hid hcont
      have HK := Lib.hid hK
      clear hcont hK hE hsum
      have cb : wr.cell? ⟨gb, 0, none⟩ = some (.pointer (some ⟨ga, 0, none⟩)) := cell_of_heap HW'.var 0
      rcases formed_kind hform with hkind | hkind | hkind
      all_goals (rw [hkind] at h0 HC; rw [hkind] at HK; have HKI := Lib.hid hkind; clear hkind hform)
      · have ca : wr.cell? ⟨ga, 1, none⟩ = some (.func (.func 37) #[] #[]) := cell_of_heap HW'.arr 1
        clear HW'
        go_wp2_with fail
        go_region_held3 (fun w' => w'.cell? ⟨gb, 0, none⟩ = some (.pointer (some ⟨ga, 0, none⟩)) ∧ w'.cell? ⟨ga, 1, none⟩ = some (.func (.func 37) #[] #[]) ∧ w'.cell? ⟨wr.heap.size, 0, none⟩ = some (.int .i64 1) ∧ w'.cell? ⟨wr.heap.size, 1, none⟩ = some (.int .i64 l[k].n) ∧ w'.cell? ⟨wr.heap.size, 2, none⟩ = some (.string l[k].s) ∧ w'.cell? ⟨wr.heap.size, 3, none⟩ = some (.slice A' l[k].l.length c')) (first | assumption | go_keep)
          (first
            | (go_at_call 37; refine (HC.out.1 (by first | rfl | trivial)).mono ?_; rintro e w3 ⟨v3, rfl, hown3, hgrow3, hat3⟩; have hS := And.intro (hgrow3.cell (a := ⟨gb, 0, none⟩) (v := .pointer (some ⟨ga, 0, none⟩)) (by go_simp) HNE.out.2) (And.intro (hgrow3.cell (a := ⟨ga, 1, none⟩) (v := .func (.func 37) #[] #[]) (by go_simp) HNE.out.1) (And.intro (grown_newer (p := ⟨wr.heap.size, 0, none⟩) (u := .int .i64 1) hrel.out.1.ltv hgrow3 (Nat.le_refl _) (by go_simp)) (And.intro (grown_newer (p := ⟨wr.heap.size, 1, none⟩) (u := .int .i64 l[k].n) hrel.out.1.ltv hgrow3 (Nat.le_refl _) (by go_simp)) (And.intro (grown_newer (p := ⟨wr.heap.size, 2, none⟩) (u := .string l[k].s) hrel.out.1.ltv hgrow3 (Nat.le_refl _) (by go_simp)) (grown_newer (p := ⟨wr.heap.size, 3, none⟩) (u := .slice A' l[k].l.length c') hrel.out.1.ltv hgrow3 (Nat.le_refl _) (by go_simp))))))))
        have HG3 : Hid (OwnB w3 B v3 (xs ++ (3 :: numeral l.length) ++ encL (l.take (k + 1))) ∧ Grew w w3 v v3) := ⟨by rw [encL_take hlt, ← List.append_assoc]; exact hown3, hrel.out.2.app (by (with_reducible repeat (first | exact Below.refl _ _ | assumption | refine below_drew ?_ | refine below_drewN ?_ _ | refine below_box ?_ _))) hgrow3 hat3⟩
        clear hown3 hgrow3 hat3 hS
        go_wp2
        go_roundw
        case rel => exact ⟨k + 1, by omega, by go_num, HG3⟩
        case measure => simp [intOf]; omega
      · have ca : wr.cell? ⟨ga, 2, none⟩ = some (.func (.func 40) #[] #[]) := cell_of_heap HW'.arr 2
        clear HW'
        go_wp2_with fail
        go_region_held3 (fun w' => w'.cell? ⟨gb, 0, none⟩ = some (.pointer (some ⟨ga, 0, none⟩)) ∧ w'.cell? ⟨ga, 2, none⟩ = some (.func (.func 40) #[] #[]) ∧ w'.cell? ⟨wr.heap.size, 0, none⟩ = some (.int .i64 2) ∧ w'.cell? ⟨wr.heap.size, 1, none⟩ = some (.int .i64 l[k].n) ∧ w'.cell? ⟨wr.heap.size, 2, none⟩ = some (.string l[k].s) ∧ w'.cell? ⟨wr.heap.size, 3, none⟩ = some (.slice A' l[k].l.length c')) (first | assumption | go_keep)
          (first
            | (go_at_call 40; refine (HC.out.2.1 (by first | rfl | trivial)).mono ?_; rintro e w3 ⟨v3, rfl, hown3, hgrow3, hat3⟩; have hS := And.intro (hgrow3.cell (a := ⟨gb, 0, none⟩) (v := .pointer (some ⟨ga, 0, none⟩)) (by go_simp) HNE.out.2) (And.intro (hgrow3.cell (a := ⟨ga, 2, none⟩) (v := .func (.func 40) #[] #[]) (by go_simp) HNE.out.1) (And.intro (grown_newer (p := ⟨wr.heap.size, 0, none⟩) (u := .int .i64 2) hrel.out.1.ltv hgrow3 (Nat.le_refl _) (by go_simp)) (And.intro (grown_newer (p := ⟨wr.heap.size, 1, none⟩) (u := .int .i64 l[k].n) hrel.out.1.ltv hgrow3 (Nat.le_refl _) (by go_simp)) (And.intro (grown_newer (p := ⟨wr.heap.size, 2, none⟩) (u := .string l[k].s) hrel.out.1.ltv hgrow3 (Nat.le_refl _) (by go_simp)) (grown_newer (p := ⟨wr.heap.size, 3, none⟩) (u := .slice A' l[k].l.length c') hrel.out.1.ltv hgrow3 (Nat.le_refl _) (by go_simp))))))))
        have HG3 : Hid (OwnB w3 B v3 (xs ++ (3 :: numeral l.length) ++ encL (l.take (k + 1))) ∧ Grew w w3 v v3) := ⟨by rw [encL_take hlt, ← List.append_assoc]; exact hown3, hrel.out.2.app (by (with_reducible repeat (first | exact Below.refl _ _ | assumption | refine below_drew ?_ | refine below_drewN ?_ _ | refine below_box ?_ _))) hgrow3 hat3⟩
        clear hown3 hgrow3 hat3 hS
        go_wp2
        go_roundw
        case rel => exact ⟨k + 1, by omega, by go_num, HG3⟩
        case measure => simp [intOf]; omega
      · have ca : wr.cell? ⟨ga, 3, none⟩ = some (.func (.func 41) #[] #[.pointer (some ⟨gb, 0, none⟩)]) := cell_of_heap HW'.arr 3
        clear HW'
        go_wp2_with fail
        go_region_held3 (fun w' => w'.cell? ⟨gb, 0, none⟩ = some (.pointer (some ⟨ga, 0, none⟩)) ∧ w'.cell? ⟨ga, 3, none⟩ = some (.func (.func 41) #[] #[.pointer (some ⟨gb, 0, none⟩)]) ∧ w'.cell? ⟨wr.heap.size, 0, none⟩ = some (.int .i64 3) ∧ w'.cell? ⟨wr.heap.size, 1, none⟩ = some (.int .i64 l[k].n) ∧ w'.cell? ⟨wr.heap.size, 2, none⟩ = some (.string l[k].s) ∧ w'.cell? ⟨wr.heap.size, 3, none⟩ = some (.slice A' l[k].l.length c')) (first | assumption | go_keep)
          (first
            | (go_at_call 41; refine (HC.out.2.2 (by first | rfl | trivial)).mono ?_; rintro e w3 ⟨v3, rfl, hown3, hgrow3, hat3⟩; have hS := And.intro (hgrow3.cell (a := ⟨gb, 0, none⟩) (v := .pointer (some ⟨ga, 0, none⟩)) (by go_simp) HNE.out.2) (And.intro (hgrow3.cell (a := ⟨ga, 3, none⟩) (v := .func (.func 41) #[] #[.pointer (some ⟨gb, 0, none⟩)]) (by go_simp) HNE.out.1) (And.intro (grown_newer (p := ⟨wr.heap.size, 0, none⟩) (u := .int .i64 3) hrel.out.1.ltv hgrow3 (Nat.le_refl _) (by go_simp)) (And.intro (grown_newer (p := ⟨wr.heap.size, 1, none⟩) (u := .int .i64 l[k].n) hrel.out.1.ltv hgrow3 (Nat.le_refl _) (by go_simp)) (And.intro (grown_newer (p := ⟨wr.heap.size, 2, none⟩) (u := .string l[k].s) hrel.out.1.ltv hgrow3 (Nat.le_refl _) (by go_simp)) (grown_newer (p := ⟨wr.heap.size, 3, none⟩) (u := .slice A' l[k].l.length c') hrel.out.1.ltv hgrow3 (Nat.le_refl _) (by go_simp))))))))
        have HG3 : Hid (OwnB w3 B v3 (xs ++ (3 :: numeral l.length) ++ encL (l.take (k + 1))) ∧ Grew w w3 v v3) := ⟨by rw [encL_take hlt, ← List.append_assoc]; exact hown3, hrel.out.2.app (by (with_reducible repeat (first | exact Below.refl _ _ | assumption | refine below_drew ?_ | refine below_drewN ?_ _ | refine below_box ?_ _))) hgrow3 hat3⟩
        clear hown3 hgrow3 hat3 hS
        go_wp2
        go_roundw
        case rel => exact ⟨k + 1, by omega, by go_num, HG3⟩
        case measure => simp [intOf]; omega
    · obtain rfl : k = l.length := by omega
      go_wp2
      go_ret
      have hr := hrel.out
      rw [List.take_length, List.append_assoc] at hr
      exact ⟨u0, rfl, by rw [enc_list]; exact hr.1, hr.2.grown, hr.2.at_⟩
end Go.Proofs.Ytpmokmhakdkpdaa.B
