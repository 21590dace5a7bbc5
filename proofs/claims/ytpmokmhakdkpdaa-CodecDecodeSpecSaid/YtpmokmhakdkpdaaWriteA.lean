import Derived.Test.YtpmokmhakdkpdaaSigned
import Derived.Test.YtpmokmhakdkpdaaNumeral
import Derived.Deep.RegionHeld3
namespace Go.Proofs.Ytpmokmhakdkpdaa.B
open Go.RowKit

set_option maxRecDepth 100000 in
set_option maxHeartbeats 1000000 in
theorem write1_calls {w : World} {B : Nat} {v : Value} {xs : List UInt8} {F : Foot} {x : Val} {cs : List Value} (hx : kVal.K w F x cs) (h : OwnB w B v xs) (hl : xs.length ≤ 70368744177663) (hB : B ≤ w.heap.size) :
    Calls Try.prog 37 #[v, .agg cs.toArray] w (Appended w B v xs (1 :: numeral (zig x.n))) := by
  obtain ⟨A, c, rfl, ⟨k1, k2⟩, ⟨n1, n2⟩, hs, hsl⟩ := kVal_open hx
  clear hs hsl hx
  have Hn1 := Lib.hid n1
  have Hn2 := Lib.hid n2
  have HL : Hid (xs.length ≤ 70368744177663) := hl
  have HO := Lib.hid h
  have HB := Lib.hid hB
  clear k1 k2 n1 n2 hl h hB
  go_enter Try.func37, Try.ntmps37
  go_wp2_with fail
  go_region_held3 (fun w' => w'.cell? ⟨w.heap.size, 1, none⟩ = some (.int .i64 x.n)) (first | assumption | go_keep)
    (first
      | (go_at_call 39; refine (unsigned_calls Hn1.out Hn2.out).mono ?_; rintro e w' ⟨rfl, rfl⟩)
      | (refine step_app1 rfl (.tmp 5) (.tmp 6) _ rfl E_u8 1 [.int .u8 1] (HO.out.below ?b) rfl ⟨w.heap.size + 1, 0, none⟩ 1 rfl rfl ?k (fun _ h => h.elim) ?c1 (by decide) ?c2 ?_; (case b => (with_reducible repeat (first | exact Below.refl _ _ | assumption | refine below_drew ?_ | refine below_drewN ?_ _ | refine below_box ?_ _))); (case k => (have h := cell_new1 (w.alloc (.cells #[.int .i64 x.kind, .int .i64 x.n, .string x.s, .slice A x.l.length c] 24)) (.int .u8 1) 5; simpa using h)); (case c1 => have := HL.out; omega); (case c2 => have := HB.out; simp; omega); intro v' w1 hown' hgrow hat'; have hcell := grown_newer (p := ⟨w.heap.size, 1, none⟩) HO.out.ltv hgrow (Nat.le_refl _) (u := .int .i64 x.n) (by go_simp))
      | (go_at_call 38; refine (numeral_calls hown' (zig_lt Hn1.out Hn2.out) ?_ ?_).mono ?_; (have := HL.out; rw [List.length_append]; simp; omega); (have h1 := HB.out; have h2 := hgrow.size; simp at h2; omega); rintro e w2 ⟨v2, rfl, hown2, hgrow2, hat2⟩; have hcell2 := grown_mid (p := ⟨w.heap.size, 1, none⟩) HO.out.ltv hat' (Nat.le_refl _) (by simp; omega) hgrow2 hcell))
  go_wp2
  go_ret
  refine ⟨v2, rfl, ?_, ?_, ?_⟩
  · rw [List.append_assoc] at hown2
    exact hown2
  · exact grown_next (grown_next (World.grownBy.refl _ _) At.refl (by (with_reducible repeat (first | exact Below.refl _ _ | assumption | refine below_drew ?_ | refine below_drewN ?_ _ | refine below_box ?_ _))) hgrow) (at_next (World.grownBy.refl _ _) (by (with_reducible repeat (first | exact Below.refl _ _ | assumption | refine below_drew ?_ | refine below_drewN ?_ _ | refine below_box ?_ _))) At.refl hat') (Below.refl _ _) hgrow2
  · exact at_next (grown_next (World.grownBy.refl _ _) At.refl (by (with_reducible repeat (first | exact Below.refl _ _ | assumption | refine below_drew ?_ | refine below_drewN ?_ _ | refine below_box ?_ _))) hgrow) (Below.refl _ _) (at_next (World.grownBy.refl _ _) (by (with_reducible repeat (first | exact Below.refl _ _ | assumption | refine below_drew ?_ | refine below_drewN ?_ _ | refine below_box ?_ _))) At.refl hat') hat2
end Go.Proofs.Ytpmokmhakdkpdaa.B
