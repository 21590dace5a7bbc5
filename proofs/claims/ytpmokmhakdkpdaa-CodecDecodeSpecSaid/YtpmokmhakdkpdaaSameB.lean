import Derived.Test.YtpmokmhakdkpdaaSame
import Derived.Test.YtpmokmhakdkpdaaStr
namespace Go.Proofs.Ytpmokmhakdkpdaa.B
open Go.RowKit

theorem Val.eq_of {a b : Val} (h1 : a.kind = b.kind) (h2 : a.n = b.n) (h3 : a.s = b.s) (h4 : a.l = b.l) : a = b := by
  obtain ⟨k, n, s, l⟩ := a
  obtain ⟨k', n', s', l'⟩ := b
  simp only at h1 h2 h3 h4
  subst h1; subst h2; subst h3; subst h4; rfl

set_option maxRecDepth 100000 in
set_option maxHeartbeats 1000000 in
/-- codec.Same: are two values equal? -/
theorem same_calls : ∀ (a b : Val) (w : World) (F F' : Foot) (cs ds : List Value), kVal.K w F a cs → kVal.K w F' b ds → Calls Try.prog 21 #[.agg cs.toArray, .agg ds.toArray] w (SameR a b w) := by
  refine Val.ind (fun a ih => ?_)
  intro b w F F' cs ds ha hb
  obtain ⟨A, c, rfl, _, _, _, hsl⟩ := kVal_open ha
  obtain ⟨A', c', rfl, _, _, _, hsl'⟩ := kVal_open hb
  clear ha hb
  obtain ⟨k, n, s, l⟩ := a
  obtain ⟨k', n', s', l'⟩ := b
  simp only at hsl hsl' ih ⊢
  have HS := Lib.hid hsl
  have HS' := Lib.hid hsl'
  have HIH := Lib.hid ih
  clear hsl hsl' ih
  cases h1 : (k == k')
  · have hs : Hid (sameM (⟨k, n, s, l⟩ : Val) ⟨k', n', s', l'⟩ = false) := sameM_ne (fun e => by injection e with e1; subst e1; simp at h1)
    go_enter Try.func21, Try.ntmps21
    go_wp2
    go_ret
    exact ⟨by rw [hs.out]; rfl, by (with_reducible repeat (first | exact Below.refl _ _ | assumption | refine below_drew ?_ | refine below_drewN ?_ _ | refine below_box ?_ _))⟩
  cases h2 : (n == n')
  · have hs : Hid (sameM (⟨k, n, s, l⟩ : Val) ⟨k', n', s', l'⟩ = false) := sameM_ne (fun e => by injection e with _ e1; subst e1; simp at h2)
    go_enter Try.func21, Try.ntmps21
    go_wp2
    go_ret
    exact ⟨by rw [hs.out]; rfl, by (with_reducible repeat (first | exact Below.refl _ _ | assumption | refine below_drew ?_ | refine below_drewN ?_ _ | refine below_box ?_ _))⟩
  cases h3 : (s.toList == s'.toList)
  · have hs : Hid (sameM (⟨k, n, s, l⟩ : Val) ⟨k', n', s', l'⟩ = false) := sameM_ne (fun e => by injection e with _ _ e1; subst e1; simp at h3)
    go_enter Try.func21, Try.ntmps21
    go_wp2
    go_ret
    exact ⟨by rw [hs.out]; rfl, by (with_reducible repeat (first | exact Below.refl _ _ | assumption | refine below_drew ?_ | refine below_drewN ?_ _ | refine below_box ?_ _))⟩
  have hs : Hid (sameM (⟨k, n, s, l⟩ : Val) ⟨k', n', s', l'⟩ = sameM l l') := by
    show sameM (⟨k, n, s, l⟩ : Val) ⟨k', n', s', l'⟩ = sameM l l'
    have e1 : k = k' := by simpa using h1
    have e2 : n = n' := by simpa using h2
    have e3 : s = s' := toList_inj (by simpa using h3)
    by_cases e : l = l'
    · rw [sameM_eq e, sameM_eq (Val.eq_of e1 e2 e3 e)]
    · rw [sameM_ne e, sameM_ne (fun h => e (by injection h))]
  go_enter Try.func21, Try.ntmps21
  go_wp2_with (go_at_call 35; refine (equalFunc_calls (HS.out.below (by (with_reducible repeat (first | exact Below.refl _ _ | assumption | refine below_drew ?_ | refine below_drewN ?_ _ | refine below_box ?_ _)))) (HS'.out.below (by (with_reducible repeat (first | exact Below.refl _ _ | assumption | refine below_drew ?_ | refine below_drewN ?_ _ | refine below_box ?_ _)))) HIH.out).mono ?_; unfold SameR; rintro e w1 ⟨rfl, hb1⟩)
  go_ret
  exact ⟨by rw [hs.out]; rfl, below_then (by (with_reducible repeat (first | exact Below.refl _ _ | assumption | refine below_drew ?_ | refine below_drewN ?_ _ | refine below_box ?_ _))) hb1⟩
end Go.Proofs.Ytpmokmhakdkpdaa.B
