/- DiskSyncSpec answers true. -/
import Derived.Test.YtmcdimcjmafaoaaDLawWrite
import Derived.Test.YtmcdimcjmafaoaaDiskT
namespace Go.Proofs.Ytmcdimcjmafaoaa.B
set_option linter.unusedVariables false
set_option linter.unusedSimpArgs false
open Go.RowKit

section
variable {d d' : Dsk} {z n : Int} {w : World} {F : Foot} {cs : List Value}
theorem rsync_as (hd : syncD d = d') (hz : syncE d = z) (h : kDsk.K w F d cs) : Calls Try.prog 24 #[.agg cs.toArray] w (DskE d' z w) := by subst hd; subst hz; exact rsync_calls (Kd.any h)
theorem rstop_as (hd : stopD d n = d') (hz : stopE d n = z) (h : kDsk.K w F d cs) (hn : I64 n) : Calls Try.prog 26 #[.agg cs.toArray, .int .i64 n] w (DskE d' z w) := by subst hd; subst hz; exact rstop_calls (Kd.any h) hn
end
set_option maxRecDepth 100000 in
set_option maxHeartbeats 4000000 in
theorem syncSpec_calls {d : Dsk} {l : Int} {w : World} {cs : List Value} (hK0 : kDsk.K w (Old w) d cs) (hl : I64 l) :
    Calls Try.prog 5 #[.agg cs.toArray, .int .i64 l] w (Says (.bool true) w) := by
  obtain ⟨A0, n0, c0, B0, m0, d0, l0, s0, rfl, hK0⟩ := kDsk_shape hK0
  have HI := Lib.hid hl
  obtain ⟨F0, D0⟩ : ∃ F, Hid (DV (w.alloc (.cells #[.slice A0 n0 c0, .slice B0 m0 d0, .int .i64 l0, .bool s0] 25)) F w.heap.size d A0 n0 c0 B0 m0 d0 l0 s0) := ⟨_, DV.new hK0⟩
  have HB0 := Lib.hid (below_box (Below.refl w.heap.size w) (.cells #[.slice A0 n0 c0, .slice B0 m0 d0, .int .i64 l0, .bool s0] 25))
  clear hK0 hl
  go_enter Try.func5, Try.ntmps5
  go_wp2_with fail
  refine sane47_calls.mono ?_
  rintro e w1 ⟨rfl, hb1⟩
  have D1 := Lib.hid (D0.out.below hb1)
  have HB1 := Lib.hid (below_then HB0.out hb1)
  clear hb1 D0 HB0
  have f := D1.out.facts
  go_wp2_with fail
  refine (dfew_calls D1.out.k).mono ?_
  rintro e w2 ⟨q, rfl, hb2⟩
  have D2 := Lib.hid (D1.out.below hb2)
  have HB2 := Lib.hid (below_then HB1.out hb2)
  clear hb2 f D1 HB1
  cases q
  · go_wp2
    go_ret
    exact Says.of rfl HB2.out
  · obtain ⟨dn, hdn⟩ : ∃ x, syncD d = x := ⟨_, rfl⟩
    obtain ⟨zn, hzn⟩ : ∃ x, syncE d = x := ⟨_, rfl⟩
    obtain ⟨dt, hdt⟩ : ∃ x, stopD d l = x := ⟨_, rfl⟩
    obtain ⟨zt, hzt⟩ : ∃ x, stopE d l = x := ⟨_, rfl⟩
    have HDN := Lib.hid hdn
    have HZN := Lib.hid hzn
    have HDT := Lib.hid hdt
    have HZT := Lib.hid hzt
    clear hdn hzn hdt hzt
    have f := D2.out.facts
    go_wp2_with fail
    refine (sync_as HDN.out HZN.out D2.out.k).mono ?_
    rintro e w5 ⟨cs5, rfl, hK5, hb5⟩
    obtain ⟨A5, n5, c5, B5, m5, d5, l5, s5, rfl, hK5⟩ := kDsk_shape hK5
    obtain ⟨F5, D5⟩ : ∃ F, Hid (DV (w5.alloc (.cells #[.slice A5 n5 c5, .slice B5 m5 d5, .int .i64 l5, .bool s5] 25)) F w5.heap.size dn A5 n5 c5 B5 m5 d5 l5 s5) := ⟨_, DV.new hK5⟩
    have hx5 := below_box hb5 (.cells #[.slice A5 n5 c5, .slice B5 m5 d5, .int .i64 l5, .bool s5] 25)
    have D3 := Lib.hid (D2.out.below hx5)
    have HB5 := Lib.hid (below_then HB2.out hx5)
    clear hK5 hb5 hx5 f D2
    have f := D3.out.facts
    go_wp2_with fail
    refine (rsync_as HDN.out HZN.out D3.out.k).mono ?_
    rintro e w6 ⟨cs6, rfl, hK6, hb6⟩
    obtain ⟨A6, n6, c6, B6, m6, d6, l6, s6, rfl, hK6⟩ := kDsk_shape hK6
    obtain ⟨F6, D6⟩ : ∃ F, Hid (DV (w6.alloc (.cells #[.slice A6 n6 c6, .slice B6 m6 d6, .int .i64 l6, .bool s6] 25)) F w6.heap.size dn A6 n6 c6 B6 m6 d6 l6 s6) := ⟨_, DV.new hK6⟩
    have hx6 := below_box hb6 (.cells #[.slice A6 n6 c6, .slice B6 m6 d6, .int .i64 l6, .bool s6] 25)
    have D4 := Lib.hid (D3.out.below hx6)
    have D5a := Lib.hid (D5.out.below hx6)
    have HB6 := Lib.hid (below_then HB5.out hx6)
    clear hK6 hb6 hx6 f D3 D5 HB5
    have f := D4.out.facts
    go_wp2_with fail
    refine (stop_as HDT.out HZT.out D4.out.k HI.out).mono ?_
    rintro e w7 ⟨cs7, rfl, hK7, hb7⟩
    obtain ⟨A7, n7, c7, B7, m7, d7, l7, s7, rfl, hK7⟩ := kDsk_shape hK7
    obtain ⟨F7, D7⟩ : ∃ F, Hid (DV (w7.alloc (.cells #[.slice A7 n7 c7, .slice B7 m7 d7, .int .i64 l7, .bool s7] 25)) F w7.heap.size dt A7 n7 c7 B7 m7 d7 l7 s7) := ⟨_, DV.new hK7⟩
    have hx7 := below_box hb7 (.cells #[.slice A7 n7 c7, .slice B7 m7 d7, .int .i64 l7, .bool s7] 25)
    have D4a := Lib.hid (D4.out.below hx7)
    have D5b := Lib.hid (D5a.out.below hx7)
    have D6a := Lib.hid (D6.out.below hx7)
    have HB7 := Lib.hid (below_then HB6.out hx7)
    clear hK7 hb7 hx7 f D4 D5a D6 HB6
    have f := D4a.out.facts
    go_wp2_with fail
    refine (rstop_as HDT.out HZT.out D4a.out.k HI.out).mono ?_
    rintro e w8 ⟨cs8, rfl, hK8, hb8⟩
    obtain ⟨A8, n8, c8, B8, m8, d8, l8, s8, rfl, hK8⟩ := kDsk_shape hK8
    obtain ⟨F8, D8⟩ : ∃ F, Hid (DV (w8.alloc (.cells #[.slice A8 n8 c8, .slice B8 m8 d8, .int .i64 l8, .bool s8] 25)) F w8.heap.size dt A8 n8 c8 B8 m8 d8 l8 s8) := ⟨_, DV.new hK8⟩
    have hx8 := below_box hb8 (.cells #[.slice A8 n8 c8, .slice B8 m8 d8, .int .i64 l8, .bool s8] 25)
    have D5c := Lib.hid (D5b.out.below hx8)
    have D6b := Lib.hid (D6a.out.below hx8)
    have D7a := Lib.hid (D7.out.below hx8)
    have HB8 := Lib.hid (below_then HB7.out hx8)
    clear hK8 hb8 hx8 f D4a D5b D6a D7 HB7
    have f := D5c.out.facts
    have g := D6b.out.facts
    go_wp2_with fail
    refine (dsame_as D5c.out.k D6b.out.k).mono ?_
    rintro e w9 ⟨rfl, hb9⟩
    have D7b := Lib.hid (D7a.out.below hb9)
    have D8a := Lib.hid (D8.out.below hb9)
    have HB9 := Lib.hid (below_then HB8.out hb9)
    clear f g hb9 HB8 D5c D6b D7a D8
    have f := D7b.out.facts
    have g := D8a.out.facts
    go_wp2_with fail
    refine (dsame_as D7b.out.k D8a.out.k).mono ?_
    rintro e w10 ⟨rfl, hb10⟩
    have HB10 := Lib.hid (below_then HB9.out hb10)
    clear f g hb10 HB9
    go_wp2
    go_ret
    exact Says.of rfl HB10.out
end Go.Proofs.Ytmcdimcjmafaoaa.B
