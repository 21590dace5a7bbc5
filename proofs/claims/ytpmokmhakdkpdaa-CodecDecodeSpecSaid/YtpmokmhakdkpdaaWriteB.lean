import Derived.Test.YtpmokmhakdkpdaaSigned
import Derived.Test.YtpmokmhakdkpdaaNumeral
import Derived.Deep.RegionHeld3
import Derived.Test.YtpmokmhakdkpdaaOwnStr
namespace Go.Proofs.Ytpmokmhakdkpdaa.B
open Go.RowKit

set_option maxRecDepth 100000 in
set_option maxHeartbeats 1000000 in
theorem write2_calls {w : World} {B : Nat} {v : Value} {xs : List UInt8} {F : Foot} {x : Val} {cs : List Value} (hx : kVal.K w F x cs) (h : OwnB w B v xs) (hl : xs.length + x.s.size ≤ 70368744177663) (hB : B ≤ w.heap.size) :
    Calls Try.prog 40 #[v, .agg cs.toArray] w (Appended w B v xs (2 :: (numeral x.s.size ++ x.s.data.toList))) := by
  obtain ⟨A, c, rfl, ⟨k1, k2⟩, ⟨n1, n2⟩, hs, hsl⟩ := kVal_open hx
  have hw : IntKind.u64.wrap (x.s.size : Int) = (x.s.size : Int) := by unfold maxLen at hs; rw [IntKind.wrap_u64]; omega
  clear hs hsl hx
  have HL := Lib.hid hl
  have HO := Lib.hid h
  have HB := Lib.hid hB
  clear k1 k2 n1 n2 hl h hB
  go_enter Try.func40, Try.ntmps40
  go_wp2_with fail
  go_region_held3 (fun w' => w'.cell? ⟨w.heap.size, 2, none⟩ = some (.string x.s)) (first | assumption | go_keep)
    (first
      | (refine step_app1 rfl (.tmp 5) (.tmp 6) _ rfl E_u8 2 [.int .u8 2] (HO.out.below ?b) rfl ⟨w.heap.size + 1, 0, none⟩ 1 rfl rfl ?k (fun _ h => h.elim) ?c1 (by decide) ?c2 ?_; (case b => (with_reducible repeat (first | exact Below.refl _ _ | assumption | refine below_drew ?_ | refine below_drewN ?_ _ | refine below_box ?_ _))); (case k => (have h := cell_new1 (w.alloc (.cells #[.int .i64 x.kind, .int .i64 x.n, .string x.s, .slice A x.l.length c] 24)) (.int .u8 2) 5; simpa using h)); (case c1 => have := HL.out; omega); (case c2 => have := HB.out; simp; omega); intro v' w1 hown' hgrow hat'; have hcell := grown_newer (p := ⟨w.heap.size, 2, none⟩) HO.out.ltv hgrow (Nat.le_refl _) (u := .string x.s) (by go_simp))
      | (go_at_call 38; refine (numeral_calls hown' (u := x.s.size) ?_ ?_ ?_).mono ?_; (have := HL.out; omega); (have := HL.out; rw [List.length_append]; simp; omega); (have h1 := HB.out; have h2 := hgrow.size; simp at h2; omega); rintro e w2 ⟨v2, rfl, hown2, hgrow2, hat2⟩; have hcell2 := grown_mid (p := ⟨w.heap.size, 2, none⟩) HO.out.ltv hat' (Nat.le_refl _) (by simp; omega) hgrow2 hcell)
      | (refine step_appstr rfl (.tmp 12) (.tmp 14) _ _ rfl Try.underlying27 Try.underlying9 (info_parts info_u8) hown2 rfl x.s rfl (fun _ h => h.elim) ?c1 ?c2 ?_; (case c1 => (have := HL.out; have := numeral_le10 (u := x.s.size) (by omega); simp only [List.length_append, List.length_cons, List.length_nil]; omega)); (case c2 => have h1 := HB.out; have h2 := hgrow.size; have h3 := hgrow2.size; simp at h2; omega); intro v3 w3 hown3 hgrow3 hat3; have hcell3 := grown_mid (p := ⟨w.heap.size, 2, none⟩) HO.out.ltv (at_next (grown_next (World.grownBy.refl _ _) At.refl (Below.refl _ _) hgrow) (Below.refl _ _) hat' hat2) (Nat.le_refl _) (by simp; omega) hgrow3 hcell2))
  go_wp2
  go_ret
  refine ⟨v3, rfl, ?_, ?_, ?_⟩
  · rw [List.append_assoc, List.append_assoc] at hown3
    exact hown3
  · exact grown_next (grown_next (grown_next (World.grownBy.refl _ _) At.refl (by (with_reducible repeat (first | exact Below.refl _ _ | assumption | refine below_drew ?_ | refine below_drewN ?_ _ | refine below_box ?_ _))) hgrow) (at_next (World.grownBy.refl _ _) (by (with_reducible repeat (first | exact Below.refl _ _ | assumption | refine below_drew ?_ | refine below_drewN ?_ _ | refine below_box ?_ _))) At.refl hat') (Below.refl _ _) hgrow2) (at_next (grown_next (World.grownBy.refl _ _) At.refl (by (with_reducible repeat (first | exact Below.refl _ _ | assumption | refine below_drew ?_ | refine below_drewN ?_ _ | refine below_box ?_ _))) hgrow) (Below.refl _ _) (at_next (World.grownBy.refl _ _) (by (with_reducible repeat (first | exact Below.refl _ _ | assumption | refine below_drew ?_ | refine below_drewN ?_ _ | refine below_box ?_ _))) At.refl hat') hat2) (Below.refl _ _) hgrow3
  · exact at_next (grown_next (grown_next (World.grownBy.refl _ _) At.refl (by (with_reducible repeat (first | exact Below.refl _ _ | assumption | refine below_drew ?_ | refine below_drewN ?_ _ | refine below_box ?_ _))) hgrow) (at_next (World.grownBy.refl _ _) (by (with_reducible repeat (first | exact Below.refl _ _ | assumption | refine below_drew ?_ | refine below_drewN ?_ _ | refine below_box ?_ _))) At.refl hat') (Below.refl _ _) hgrow2) (Below.refl _ _) (at_next (grown_next (World.grownBy.refl _ _) At.refl (by (with_reducible repeat (first | exact Below.refl _ _ | assumption | refine below_drew ?_ | refine below_drewN ?_ _ | refine below_box ?_ _))) hgrow) (Below.refl _ _) (at_next (World.grownBy.refl _ _) (by (with_reducible repeat (first | exact Below.refl _ _ | assumption | refine below_drew ?_ | refine below_drewN ?_ _ | refine below_box ?_ _))) At.refl hat') hat2) hat3
end Go.Proofs.Ytpmokmhakdkpdaa.B
