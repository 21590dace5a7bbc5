import Derived.Test.YtmcdimcjmafaoaaDiskH
namespace Go.Proofs.Ytmcdimcjmafaoaa.B
set_option linter.unusedVariables false
set_option linter.unusedSimpArgs false
open Go.RowKit

theorem Own.set1_at {α : Type} {d : Kd α} {e : TypeId} {w : World} {B : Nat} {F : Foot} {g n cap : Nat} {xs : List α} (h : Own d e w B F (.slice (some ⟨g, 0, none⟩) n cap) xs) (hsz : d.sz = 1) {j : Nat} (hj : j < xs.length) {y : α} {c : Value} (hK : d.K w F y [c]) :
    B ≤ g ∧ g < w.heap.size ∧ (∃ u, w.cell? ⟨g, j, none⟩ = some u) ∧ w.frozen? ⟨g, j, none⟩ = false ∧ Own d e (w.setCell ⟨g, j, none⟩ c) B F (.slice (some ⟨g, 0, none⟩) n cap) (xs.set j y) := by
  obtain ⟨g', cap', e', h1, h2, h3, h4, h5⟩ := h.set1 hsz hj hK
  injection e' with e1 e2 e3
  injection e1 with e1
  injection e1 with e1
  subst e1 e2 e3
  exact ⟨h1, h2, h3, h4, h5⟩
theorem performD_nil (s : List (List UInt8)) : performD [] s = s := rfl
theorem performD_take {l : List Wr} {s : List (List UInt8)} {i : Nat} (hi : i < l.length) : performD (l.take (i + 1)) s = (performD (l.take i) s).set l[i].pos.toNat l[i].data := by
  unfold performD
  rw [List.take_succ_eq_append_getElem hi, List.foldl_append]
  rfl
theorem length_performD (l : List Wr) : ∀ s, (performD l s).length = s.length := by
  induction l with
  | nil => exact fun _ => rfl
  | cons x r ih => intro s; show (performD r (s.set x.pos.toNat x.data)).length = _; rw [ih, List.length_set]
set_option maxRecDepth 100000 in
set_option maxHeartbeats 4000000 in
theorem perform_calls {secs : List (List UInt8)} {l : List Wr} {w : World} {F : Foot} {A A' : Option Addr} {c c' : Nat} (hs : SL kBytes w F A c secs) (hp : SL kWr w F A' c' l) (hFo : ∀ k, F k → k < w.heap.size)
    (hok : ∀ x ∈ l, 0 ≤ x.pos ∧ x.pos < (secs.length : Int)) (h0 : 1 ≤ secs.length) (hn : secs.length ≤ 4096) (hl : l.length ≤ 4096) :
    Calls Try.prog 40 #[.slice A secs.length c, .slice A' l.length c'] w (CloneR kBytes 35 (performD l secs) w F) := by
  have HS := Lib.hid hs
  have HP := Lib.hid hp
  have HOK := Lib.hid hok
  have HFO := Lib.hid hFo
  clear hs hp hok hFo
  go_enter Try.func40, Try.ntmps40
  go_wp2_with fail
  refine (cloneS_calls HS.out HFO.out (by omega)).mono ?_
  rintro e w1 ⟨v1, rfl, hown1, hb1⟩
  obtain ⟨g, cap, cur, rfl, hg, hFg, _⟩ := hown1.block1 rfl (fun e => by rw [e] at h0; exact absurd h0 (by decide))
  have HO1 := Lib.hid hown1
  have HB1 := Lib.hid hb1
  clear hown1 hb1
  go_wp2_with fail
  go_loopw [12] (fun i' wr => ∃ i : Nat, i' = .int .i64 i ∧ i ≤ l.length ∧ Hid (Own kBytes 35 wr w.heap.size F (.slice (some ⟨g, 0, none⟩) secs.length cap) (performD (l.take i) secs)) ∧ Hid (Below w.heap.size w wr)) (fun i' _ => l.length - (intOf i').toNat)
  case atStart => exact ⟨0, rfl, Nat.zero_le _, HO1, HB1⟩
  case round =>
    obtain ⟨i, rfl, hi, hown, hb⟩ := hrel
    clear HO1 HB1
    by_cases hin : i < l.length
    · obtain ⟨ad, A1, c1', rfl, g0, g1, hpos, hsl⟩ := wr_at (HP.out.below hb.out) hin
      obtain ⟨o1, o2⟩ := HOK.out l[i] (List.getElem_mem hin)
      obtain ⟨j, hj⟩ : ∃ j : Nat, l[i].pos = (j : Int) := ⟨l[i].pos.toNat, by omega⟩
      have HPT := Lib.hid (performD_take (s := secs) hin)
      rw [hj] at g0 o1 o2 HPT
      rw [show ((j : Int)).toNat = j by omega] at HPT
      have hlen := length_performD (l.take i) secs
      have hbx := below_box (Below.refl wr.heap.size wr) (.cells #[.int .i64 j, .slice A1 l[i].data.length c1'] 54)
      have hKd : kBytes.K (wr.alloc (.cells #[.int .i64 j, .slice A1 l[i].data.length c1'] 54)) F l[i].data [.slice A1 l[i].data.length c1'] := ⟨A1, c1', rfl, hsl.below hbx⟩
      obtain ⟨k1, k2, ⟨u, k3⟩, k4, k5⟩ := (hown.out.below hbx).set1_at rfl (j := j) (by rw [hlen]; omega) hKd
      have HK5 := Lib.hid k5
      clear k5 hKd hbx hsl hpos
      go_wp2
      go_roundw
      case rel => exact ⟨i + 1, by go_num, by omega, by rw [HPT.out]; exact HK5, (below_box hb.out _).setCell hg _⟩
      case measure => simp [intOf]; omega
    · obtain rfl : i = l.length := by omega
      have HO := Lib.hid hown.out
      rw [List.take_length] at HO
      clear hown
      go_wp2
      go_ret
      exact ⟨_, rfl, HO.out, hb.out⟩
end Go.Proofs.Ytmcdimcjmafaoaa.B
