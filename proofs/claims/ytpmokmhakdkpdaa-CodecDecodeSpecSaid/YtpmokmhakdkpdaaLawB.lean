import Derived.Test.YtpmokmhakdkpdaaSaneB
import Derived.Test.YtpmokmhakdkpdaaSmall
import Derived.Test.YtpmokmhakdkpdaaSameC
import Derived.Test.YtpmokmhakdkpdaaRefA
import Derived.Deep.RegionHeld3
namespace Go.Proofs.Ytpmokmhakdkpdaa.B
open Go.RowKit

theorem same_as {a b : Val} {z : Bool} (hz : sameM a b = z) {w : World} {F F' : Foot} {cs ds : List Value} (ha : kVal.K w F a cs) (hb : kVal.K w F' b ds) :
    Calls Try.prog 21 #[.agg cs.toArray, .agg ds.toArray] w (Gives (.bool z) w) := by subst hz; exact same_calls a b w F F' cs ds ha hb
theorem rsame_as {a b : Val} {z : Bool} (hz : sameM a b = z) {w : World} {F F' : Foot} {cs ds : List Value} (ha : kVal.K w F a cs) (hb : kVal.K w F' b ds) :
    Calls Try.prog 20 #[.agg cs.toArray, .agg ds.toArray] w (Gives (.bool z) w) := by subst hz; exact rsame_calls a b w F F' cs ds ha hb
/-- Two values' boxes. -/
theorem vc_two (w : World) (k n k' n' : Int) (s s' : ByteArray) (l l' : Value) :
    VC ((w.alloc (.cells #[.int .i64 k, .int .i64 n, .string s, l] 24)).alloc (.cells #[.int .i64 k', .int .i64 n', .string s', l'] 24)) w.heap.size k n s l ∧
    VC ((w.alloc (.cells #[.int .i64 k, .int .i64 n, .string s, l] 24)).alloc (.cells #[.int .i64 k', .int .i64 n', .string s', l'] 24)) (w.heap.size + 1) k' n' s' l' := by
  refine ⟨(VC.new w k n s l).below (below_box (Below.refl _ _) _), ?_⟩
  have h := VC.new (w.alloc (.cells #[.int .i64 k, .int .i64 n, .string s, l] 24)) k' n' s' l'
  rwa [World.size_alloc] at h

set_option maxRecDepth 100000 in
set_option maxHeartbeats 4000000 in
/-- CodecSameSpec answers true. -/
theorem sameSpec_calls {a b : Val} {w : World} {F F' : Foot} {cs ds : List Value} (ha : kVal.K w F a cs) (hb : kVal.K w F' b ds) :
    Calls Try.prog 5 #[.agg cs.toArray, .agg ds.toArray] w (Gives (.bool true) w) := by
  have Ha := Lib.hid ha
  have Hb := Lib.hid hb
  obtain ⟨A, c, rfl, _, _, _, _⟩ := kVal_open ha
  obtain ⟨A', c', rfl, _, _, _, _⟩ := kVal_open hb
  clear ha hb
  have HV := Lib.hid (vc_two w a.kind a.n b.kind b.n a.s b.s (.slice A a.l.length c) (.slice A' b.l.length c'))
  go_enter Try.func5, Try.ntmps5
  go_wp2_with fail
  refine sane_calls.mono ?_
  rintro e w1 ⟨rfl, hb1⟩
  obtain ⟨⟨f1, f2, f3, f4⟩, _⟩ := (HV.out.1.below hb1).facts
  obtain ⟨⟨g1, g2, g3, g4⟩, _⟩ := (HV.out.2.below hb1).facts
  have HB1 : Below w.heap.size w w1 := below_then (by (with_reducible repeat (first | exact Below.refl _ _ | assumption | refine below_drew ?_ | refine below_drewN ?_ _ | refine below_box ?_ _))) hb1
  go_wp2_with fail
  refine (few2_calls (Kd.below Ha.out HB1) (Kd.below Hb.out HB1)).mono ?_
  rintro e w2 ⟨q, rfl, hsm, hb2⟩
  cases q
  · go_wp2
    go_ret
    exact ⟨rfl, below_then HB1 hb2⟩
  have HV1 := Lib.hid ((HV.out.1.below hb1).below hb2)
  have HV2 := Lib.hid ((HV.out.2.below hb1).below hb2)
  have HB2 : Below w.heap.size w w2 := below_then HB1 hb2
  clear f1 f2 f3 f4 g1 g2 g3 g4 hsm HB1 hb1 hb2 HV
  have KEEP0 : ∀ w', Below w2.heap.size w2 w' → (fun w' => Below w2.heap.size w2 w' ∧ (w'.cell? ⟨w.heap.size, 0, none⟩ = some (.int .i64 a.kind) ∧ w'.cell? ⟨w.heap.size, 1, none⟩ = some (.int .i64 a.n) ∧ w'.cell? ⟨w.heap.size, 2, none⟩ = some (.string a.s) ∧ w'.cell? ⟨w.heap.size, 3, none⟩ = some (.slice A a.l.length c)) ∧ (w'.cell? ⟨w.heap.size + 1, 0, none⟩ = some (.int .i64 b.kind) ∧ w'.cell? ⟨w.heap.size + 1, 1, none⟩ = some (.int .i64 b.n) ∧ w'.cell? ⟨w.heap.size + 1, 2, none⟩ = some (.string b.s) ∧ w'.cell? ⟨w.heap.size + 1, 3, none⟩ = some (.slice A' b.l.length c'))) w' := fun w' hb => ⟨hb, (HV1.out.below hb).facts.1, (HV2.out.below hb).facts.1⟩
  have KEEP := Lib.hid (fun w' w'' (h : (fun w' => Below w2.heap.size w2 w' ∧ (w'.cell? ⟨w.heap.size, 0, none⟩ = some (.int .i64 a.kind) ∧ w'.cell? ⟨w.heap.size, 1, none⟩ = some (.int .i64 a.n) ∧ w'.cell? ⟨w.heap.size, 2, none⟩ = some (.string a.s) ∧ w'.cell? ⟨w.heap.size, 3, none⟩ = some (.slice A a.l.length c)) ∧ (w'.cell? ⟨w.heap.size + 1, 0, none⟩ = some (.int .i64 b.kind) ∧ w'.cell? ⟨w.heap.size + 1, 1, none⟩ = some (.int .i64 b.n) ∧ w'.cell? ⟨w.heap.size + 1, 2, none⟩ = some (.string b.s) ∧ w'.cell? ⟨w.heap.size + 1, 3, none⟩ = some (.slice A' b.l.length c'))) w') (hb : Below w'.heap.size w' w'') => KEEP0 w'' (below_then h.1 hb))
  have KEEP1 := Lib.hid (KEEP0 _ (below_drew (Below.refl _ _)))
  clear KEEP0 HV1 HV2
  have ha1 : Hid (sameM a a = true) := sameM_eq rfl
  have hb1 : Hid (sameM b b = true) := sameM_eq rfl
  obtain ⟨z, hz'⟩ : ∃ z, sameM a b = z := ⟨_, rfl⟩
  have hz := Lib.hid hz'
  clear hz'
  go_wp2_with fail
  cases z
  all_goals
    go_region_held3 (fun w' => Below w2.heap.size w2 w' ∧ (w'.cell? ⟨w.heap.size, 0, none⟩ = some (.int .i64 a.kind) ∧ w'.cell? ⟨w.heap.size, 1, none⟩ = some (.int .i64 a.n) ∧ w'.cell? ⟨w.heap.size, 2, none⟩ = some (.string a.s) ∧ w'.cell? ⟨w.heap.size, 3, none⟩ = some (.slice A a.l.length c)) ∧ (w'.cell? ⟨w.heap.size + 1, 0, none⟩ = some (.int .i64 b.kind) ∧ w'.cell? ⟨w.heap.size + 1, 1, none⟩ = some (.int .i64 b.n) ∧ w'.cell? ⟨w.heap.size + 1, 2, none⟩ = some (.string b.s) ∧ w'.cell? ⟨w.heap.size + 1, 3, none⟩ = some (.slice A' b.l.length c'))) (first | exact KEEP1.out | exact KEEP.out _ _ (by assumption) hb7 | exact KEEP.out _ _ (by assumption) (Below.refl _ _)) (first | (go_at_call 20; (with_reducible refine (rsame_as hz.out (Kd.below Ha.out (below_then HB2 (And.left (by assumption)))) (Kd.below Hb.out (below_then HB2 (And.left (by assumption))))).mono ?_); rintro e w7 ⟨rfl, hb7⟩) | (go_at_call 21; (with_reducible refine (same_as hz.out (Kd.below Ha.out (below_then HB2 (And.left (by assumption)))) (Kd.below Hb.out (below_then HB2 (And.left (by assumption))))).mono ?_); rintro e w7 ⟨rfl, hb7⟩) | (go_at_call 21; (with_reducible refine (same_as ha1.out (Kd.below Ha.out (below_then HB2 (And.left (by assumption)))) (Kd.below Ha.out (below_then HB2 (And.left (by assumption))))).mono ?_); rintro e w7 ⟨rfl, hb7⟩) | (go_at_call 21; (with_reducible refine (same_as hb1.out (Kd.below Hb.out (below_then HB2 (And.left (by assumption)))) (Kd.below Hb.out (below_then HB2 (And.left (by assumption))))).mono ?_); rintro e w7 ⟨rfl, hb7⟩))
    all_goals (go_wp2; go_ret; exact ⟨rfl, below_then HB2 (And.left (by assumption))⟩)
end Go.Proofs.Ytpmokmhakdkpdaa.B
