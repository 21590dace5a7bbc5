import Derived.Test.YtpmokmhakdkpdaaSane
import Derived.Deep.LoopGhost
import Derived.Deep.DeepCutAuto
namespace Go.Proofs.Ytpmokmhakdkpdaa.B
open Go.RowKit

theorem decode_B {w : World} {F : Foot} {A : Option Addr} {c : Nat} (h : SL kU8 w F A c [3, 2, 1, 200, 1, 2, 2, 97, 98]) :
    Calls Try.prog 18 #[.slice A 9 c] w fun e w' => ∃ cs F', e = .returned (.tuple #[.agg cs.toArray, .int .i64 0]) ∧ kVal.K w' F' vB cs ∧ Below w.heap.size w w' := by
  refine (decode_calls h (by decide)).mono ?_
  rintro e w1 ⟨cs, F', rfl, hK, _, hb⟩
  unfold decodeV at hK
  unfold decodeE
  rw [decB] at hK ⊢
  exact ⟨cs, F', rfl, hK, hb⟩

theorem keepcell {w w' : World} {p : Addr} {u : Value} (hb : Below w.heap.size w w') (h : w.cell? p = some u) : w'.cell? p = some u := (hb.cell (World.block_lt_of_cell? w p h)).trans h
theorem decode_none {w : World} {F : Foot} {A : Option Addr} {c m : Nat} {xs : List UInt8} (h : SL kU8 w F A c xs) (hm : xs.length = m) (hl : xs.length ≤ 1000000000) (hn : decodeM xs = none) :
    Calls Try.prog 18 #[.slice A m c] w fun e w' => ∃ k n s A' m' c', e = .returned (.tuple #[.agg #[.int .i64 k, .int .i64 n, .string s, .slice A' m' c'], .int .i64 10]) ∧ Below w.heap.size w w' := by
  subst hm
  refine (decode_calls h hl).mono ?_
  rintro e w1 ⟨cs, F', rfl, hK, _, hb⟩
  unfold decodeE
  rw [hn]
  obtain ⟨A1, c1, rfl, _⟩ := kVal_open hK
  exact ⟨_, _, _, _, _, _, rfl, hb⟩

set_option maxRecDepth 100000 in
set_option maxHeartbeats 1000000 in
theorem sane_calls {w : World} : Calls Try.prog 10 #[] w fun e w' => e = .returned (.bool true) ∧ Below w.heap.size w w' := by
  go_enter Try.func10, Try.ntmps10
  go_upto_region 2 with (first
    | (go_at_call 23; refine Int_calls.mono ?_; rintro e w1 ⟨rfl, hb1⟩)
    | (go_at_call 12; refine encode_A.mono ?_; rintro e w4 ⟨v4, rfl, hown4, hb4⟩; obtain ⟨A4, c4, hf4, hsl4⟩ := hown4.sl_all; have hf4' : v4 = .slice A4 2 c4 := hf4; subst hf4'))
  have HB4 : Below w.heap.size w w4 := below_then hb1 hb4
  clear hb1 hb4
  go_upto_region 3 with (first
    | (go_at_call 23; refine Int_calls.mono ?_; rintro e w1 ⟨rfl, hb1⟩)
    | (go_at_call 24; refine Text_calls.mono ?_; rintro e w2 ⟨rfl, hb2⟩)
    | (go_at_call 22; refine List_calls.mono ?_; rintro e w3 ⟨rfl, hb3⟩))
  have HKB := Lib.hid (Kd.below (kB w2) hb3)
  have HB43 : Below w4.heap.size w4 w3 := below_then (below_box (below_then hb1 hb2) _) hb3
  clear hb1 hb2 hb3
  go_upto_region 4 with (go_at_call 12; refine (encode_B (Kd.below HKB.out (by (with_reducible repeat (first | exact Below.refl _ _ | assumption | refine below_drew ?_ | refine below_drewN ?_ _ | refine below_box ?_ _))))).mono ?_; rintro e w5 ⟨v5, rfl, hown5, hb5⟩; obtain ⟨A5, c5, hf5, hsl5⟩ := hown5.sl_all; have hf5' : v5 = .slice A5 9 c5 := hf5; subst hf5')
  have HB45 : Below w4.heap.size w4 w5 := below_then (below_box HB43 _) hb5
  have HKB5 := Lib.hid (Kd.below HKB.out (below_then (by (with_reducible repeat (first | exact Below.refl _ _ | assumption | refine below_drew ?_ | refine below_drewN ?_ _ | refine below_box ?_ _))) hb5))
  clear HB43
  go_upto_region 5 with (go_at_call 18; refine (decode_B hsl5).mono ?_; rintro e w6 ⟨cs6, F6, rfl, hK6, hb6⟩; obtain ⟨A6, c6, rfl, _⟩ := kVal_open hK6)
  have HV6 := Lib.hid (((VC.new w3 3 0 ⟨#[]⟩ (.slice (some ⟨w2.heap.size, 0, none⟩) 2 2)).below hb5).below hb6)
  have HKB6 := Lib.hid (Kd.below HKB5.out hb6)
  have HK6 := Lib.hid hK6
  have HB56 := hb6
  obtain ⟨⟨x1, x2, x3, x4⟩, _⟩ := HV6.out.facts
  have hlt6 := HV6.out.lt
  clear hK6 hb6 hb5
  go_upto_region 6 with (go_at_call 14; refine (size_B (Kd.below HKB6.out (by (with_reducible repeat (first | exact Below.refl _ _ | assumption | refine below_drew ?_ | refine below_drewN ?_ _ | refine below_box ?_ _))))).mono ?_; rintro e w7 ⟨rfl, hb7⟩)
  have HB57 : Below w5.heap.size w5 w7 := below_then (below_box HB56 _) hb7
  have HB47 : Below w4.heap.size w4 w7 := below_then HB45 HB57
  have hc4 := SL.str (hsl4.below HB47) (m := 2) rfl
  have hc5 := SL.str (hsl5.below HB57) (m := 9) rfl
  have HV7 := (HV6.out.below (below_then (below_box (Below.refl _ _) _) hb7)).facts.1
  have HW7 := ((VC.new w6 vB.kind vB.n vB.s (.slice A6 vB.l.length c6)).below hb7).facts.1
  have HKB7 := Lib.hid (Kd.below HKB6.out (below_then (below_box (Below.refl _ _) _) hb7))
  have HK7 := Lib.hid (Kd.below HK6.out (below_then (below_box (Below.refl _ _) _) hb7))
  have HBW : Below w.heap.size w w7 := below_then HB4 HB47
  clear HB57 HB47 HB56 HB45 HB4 hsl4 hsl5 x1 x2 x3 x4 hb7
  have hs1 : Hid (sameM vB vB = true) := sameM_eq rfl
  have hs2 : Hid (sameM (⟨2, 0, empty, []⟩ : Val) ⟨3, 0, empty, []⟩ = false) := sameM_ne (fun e => by injection e with e1; exact absurd e1 (by decide))
  obtain ⟨y1, y2, y3, y4⟩ := HV7
  obtain ⟨z1, z2, z3, z4⟩ := HW7
  go_upto_region 9 with (first
    | (go_at_call 24; refine Text_calls.mono ?_; rintro e w9 ⟨rfl, hb9⟩)
    | (go_at_call 22; refine List_calls.mono ?_; rintro e w10 ⟨rfl, hb10⟩)
    | (go_at_call 21; refine (same_calls ⟨2, 0, empty, []⟩ ⟨3, 0, empty, []⟩ w10 (fun _ => False) (fun _ => False) [.int .i64 2, .int .i64 0, .string ⟨#[]⟩, .slice none 0 0] [.int .i64 3, .int .i64 0, .string ⟨#[]⟩, .slice none 0 0] (kT w10 _ empty_le) (kL (l := []) (SL.nil (Nat.zero_le _)))).mono ?_; unfold SameR; rw [hs2.out]; rintro e w11 ⟨rfl, hb11⟩)
    | (go_at_call 21; refine (same_calls vB vB w7 _ _ _ _ HKB7.out HK7.out).mono ?_; unfold SameR; rw [hs1.out]; rintro e w8 ⟨rfl, hb8⟩))
  have HB11 : Below w.heap.size w w11 := below_then (below_then (below_then (below_then HBW hb8) hb9) hb10) hb11
  clear hb8 hb9 hb10 hb11 HBW HKB7 HK7 hs1 hs2 y1 y2 y3 y4 z1 z2 z3 z4 hc4 hc5
  go_loopw [79] (fun i' wr => ∃ i : Nat, i' = .int .i64 i ∧ i ≤ 4 ∧ (wr.cell? ⟨w11.heap.size, 0, none⟩ = some (.string ⟨#[]⟩) ∧ wr.cell? ⟨w11.heap.size, 1, none⟩ = some (.string ⟨#[1, 128, 0]⟩) ∧ wr.cell? ⟨w11.heap.size, 2, none⟩ = some (.string ⟨#[1, 5, 0]⟩) ∧ wr.cell? ⟨w11.heap.size, 3, none⟩ = some (.string ⟨#[2, 3, 97]⟩)) ∧ Below w.heap.size w wr) (fun i' _ => 4 - (intOf i').toNat)
  case atStart => exact ⟨0, rfl, by omega, ⟨World.cell?_alloc_at _ _ _ _ rfl, World.cell?_alloc_at _ _ _ _ rfl, World.cell?_alloc_at _ _ _ _ rfl, World.cell?_alloc_at _ _ _ _ rfl⟩, below_box HB11 _⟩
  case round =>
    obtain ⟨i, rfl, hi, ⟨f0, f1, f2, f3⟩, hb⟩ := hrel
    clear HB11
    by_cases h0 : i = 0
    · subst h0
      obtain ⟨cap, W, hconv, hsl, hbW⟩ := conv_bytes wr ⟨#[]⟩ (by decide)
      go_wp2_with (go_at_call 18; refine (decode_none hsl rfl (by decide) dec0).mono ?_; rintro e w12 ⟨k, n, s, A', m', c', rfl, hb12⟩)
      go_roundw
      case rel =>
        have HX : Below wr.heap.size wr w12 := below_then hbW hb12
        exact ⟨1, rfl, by omega, ⟨keepcell (below_box HX _) f0, keepcell (below_box HX _) f1, keepcell (below_box HX _) f2, keepcell (below_box HX _) f3⟩, below_box (below_then hb HX) _⟩
      case measure => simp [intOf]
    by_cases h1 : i = 1
    · subst h1
      obtain ⟨cap, W, hconv, hsl, hbW⟩ := conv_bytes wr ⟨#[1, 128, 0]⟩ (by decide)
      go_wp2_with (go_at_call 18; refine (decode_none hsl rfl (by decide) dec1).mono ?_; rintro e w12 ⟨k, n, s, A', m', c', rfl, hb12⟩)
      go_roundw
      case rel =>
        have HX : Below wr.heap.size wr w12 := below_then hbW hb12
        exact ⟨2, rfl, by omega, ⟨keepcell (below_box HX _) f0, keepcell (below_box HX _) f1, keepcell (below_box HX _) f2, keepcell (below_box HX _) f3⟩, below_box (below_then hb HX) _⟩
      case measure => simp [intOf]
    by_cases h2 : i = 2
    · subst h2
      obtain ⟨cap, W, hconv, hsl, hbW⟩ := conv_bytes wr ⟨#[1, 5, 0]⟩ (by decide)
      go_wp2_with (go_at_call 18; refine (decode_none hsl rfl (by decide) dec2).mono ?_; rintro e w12 ⟨k, n, s, A', m', c', rfl, hb12⟩)
      go_roundw
      case rel =>
        have HX : Below wr.heap.size wr w12 := below_then hbW hb12
        exact ⟨3, rfl, by omega, ⟨keepcell (below_box HX _) f0, keepcell (below_box HX _) f1, keepcell (below_box HX _) f2, keepcell (below_box HX _) f3⟩, below_box (below_then hb HX) _⟩
      case measure => simp [intOf]
    by_cases h3 : i = 3
    · subst h3
      obtain ⟨cap, W, hconv, hsl, hbW⟩ := conv_bytes wr ⟨#[2, 3, 97]⟩ (by decide)
      go_wp2_with (go_at_call 18; refine (decode_none hsl rfl (by decide) dec3).mono ?_; rintro e w12 ⟨k, n, s, A', m', c', rfl, hb12⟩)
      go_roundw
      case rel =>
        have HX : Below wr.heap.size wr w12 := below_then hbW hb12
        exact ⟨4, rfl, by omega, ⟨keepcell (below_box HX _) f0, keepcell (below_box HX _) f1, keepcell (below_box HX _) f2, keepcell (below_box HX _) f3⟩, below_box (below_then hb HX) _⟩
      case measure => simp [intOf]
    obtain rfl : i = 4 := by omega
    clear h0 h1 h2 h3
    go_wp2_with (go_at_call 16; refine (check_calls (v := ⟨0, 0, empty, []⟩) (F := fun _ => False) (cs := [.int .i64 0, .int .i64 0, .string ⟨#[]⟩, .slice none 0 0]) (by decide +kernel) (kZ _ _)).mono ?_; rw [checkZ]; rintro e w13 ⟨rfl, hb13⟩)
    go_ret
    exact ⟨rfl, below_then hb hb13⟩
end Go.Proofs.Ytpmokmhakdkpdaa.B
