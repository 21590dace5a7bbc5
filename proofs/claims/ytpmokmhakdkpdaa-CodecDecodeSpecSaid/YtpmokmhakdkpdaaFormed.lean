import Derived.Test.YtpmokmhakdkpdaaCodecPure
import Derived.Test.YtpmokmhakdkpdaaProg
import Derived.Deep.LoopGhost
import Derived.Deep.DeepCutAuto
namespace Go.Proofs.Ytpmokmhakdkpdaa.B
open Go.RowKit

def formedR (v : Val) (w : World) (e : Ending) (w' : World) : Prop :=
  e = .returned (.tuple #[.int .i64 (if v.formed then (v.depth : Int) else 0), .bool v.formed]) ∧ Below w.heap.size w w'

theorem formedR_mk {v : Val} {w w' : World} {e : Ending} {d : Int} {b : Bool} (he : e = .returned (.tuple #[.int .i64 d, .bool b])) (hb : v.formed = b) (hd : b = true → (v.depth : Int) = d) (h0 : b = false → d = 0) (h : Below w.heap.size w w') : formedR v w e w' := by
  refine ⟨?_, h⟩
  subst hb
  rw [he]
  cases hv : v.formed
  · rw [h0 hv]; rfl
  · rw [hd hv]; rfl

def used1 (s : ByteArray) (l : List Val) : Bool := s.toList.isEmpty && l.isEmpty
def used2 (n : Int) (l : List Val) : Bool := n == 0 && l.isEmpty
def used3 (n : Int) (s : ByteArray) : Bool := n == 0 && s.toList.isEmpty

set_option maxHeartbeats 2000000 in
theorem formed_flat {w : World} {F : Foot} {v : Val} {cs : List Value} (h : kVal.K w F v cs) (hk : v.kind ≠ 3) :
    Calls Try.prog 28 #[.agg cs.toArray] w (formedR v w) := by
  obtain ⟨A, c, rfl, ⟨k1, k2⟩, ⟨n1, n2⟩, hs, hl⟩ := kVal_open h
  have hll := hl.le
  have hlm := hl.max
  obtain ⟨k, n, s, l⟩ := v
  simp only at k1 k2 n1 n2 hs hll hlm hk ⊢
  unfold maxLen at hlm hs
  clear hl h
  go_enter Try.func28, Try.ntmps28
  go_upto_region 1 with fail
  go_cut [4] (fun s4 wx => s4 = .pointer (some ⟨w.heap.size + 1, 0, none⟩) ∧ wx = (w.alloc (.cells #[.int .i64 k, .int .i64 n, .string s, .slice A l.length c] 24)).alloc (.cells #[.bool false, .bool (used1 s l), .bool (used2 n l), .bool (used3 n s)] 71))
  case first =>
    have u1 : Hid (used1 s l = (s.toList.isEmpty && ((l.length : Int) == 0))) := by show used1 s l = _; unfold used1; cases l <;> simp <;> omega
    have u2 : Hid (used2 n l = ((n == 0) && ((l.length : Int) == 0))) := by show used2 n l = _; unfold used2; cases l <;> simp <;> omega
    have u3 : Hid (used3 n s = ((n == 0) && s.toList.isEmpty)) := rfl
    cases c3 : s.toList.isEmpty
    all_goals cases c4 : ((l.length : Int) == 0)
    all_goals cases c5 : (n == 0)
    all_goals (go_wp2; go_meet; exact ⟨rfl, by rw [u1.out, u2.out, u3.out, c3, c4, c5]; rfl⟩)
  case rest =>
    obtain ⟨rfl, rfl⟩ := hcut
    have HB : Below w.heap.size w ((w.alloc (.cells #[.int .i64 k, .int .i64 n, .string s, .slice A l.length c] 24)).alloc (.cells #[.bool false, .bool (used1 s l), .bool (used2 n l), .bool (used3 n s)] 71)) := ((Below.refl _ _).alloc (Nat.le_refl _) _).alloc (by simp) _
    have hd : Hid ((Val.depth ⟨k, n, s, l⟩ : Nat) = 0) := by show (Val.depth ⟨k, n, s, l⟩ : Nat) = 0; simp only [Val.depth]; rw [if_neg hk]
    by_cases c1 : k < 1 ∨ 3 < k
    · have hf : Hid (Val.formed ⟨k, n, s, l⟩ = false) := by show Val.formed ⟨k, n, s, l⟩ = false; simp only [Val.formed]; rw [if_neg (by omega), if_neg (by omega), if_neg (by omega)]
      clear hk
      rcases c1 with c1 | c1
      all_goals (go_wp2; go_ret2; exact formedR_mk rfl hf.out (fun h => by cases h) (fun _ => rfl) HB)
    · by_cases c2 : k = 1
      · subst c2
        have hf : Hid (Val.formed ⟨1, n, s, l⟩ = used1 s l) := by show Val.formed ⟨1, n, s, l⟩ = used1 s l; simp [Val.formed, used1]
        generalize used1 s l = u at *
        cases u
        all_goals (go_wp2; go_ret2)
        · exact formedR_mk rfl hf.out (fun h => by cases h) (fun _ => rfl) HB
        · exact formedR_mk rfl hf.out (fun _ => by rw [hd.out]; rfl) (fun h => by cases h) HB
      · obtain rfl : k = 2 := by omega
        have hf : Hid (Val.formed ⟨2, n, s, l⟩ = used2 n l) := by show Val.formed ⟨2, n, s, l⟩ = used2 n l; simp [Val.formed, used2]
        generalize used2 n l = u at *
        cases u
        all_goals (go_wp2; go_ret2)
        · exact formedR_mk rfl hf.out (fun h => by cases h) (fun _ => rfl) HB
        · exact formedR_mk rfl hf.out (fun _ => by rw [hd.out]; rfl) (fun h => by cases h) HB

set_option maxHeartbeats 2000000 in
theorem formed_list {w : World} {F : Foot} {n : Int} {s : ByteArray} {l : List Val} {cs : List Value} (h : kVal.K w F ⟨3, n, s, l⟩ cs) (hdp : depthL l < 1000000000)
    (ih : ∀ x ∈ l, ∀ (w : World) (F : Foot) (cs : List Value), kVal.K w F x cs → Calls Try.prog 28 #[.agg cs.toArray] w (formedR x w)) :
    Calls Try.prog 28 #[.agg cs.toArray] w (formedR ⟨3, n, s, l⟩ w) := by
  obtain ⟨A, c, rfl, ⟨k1, k2⟩, ⟨n1, n2⟩, hs, hl⟩ := kVal_open h
  have hll := hl.le
  have hlm := hl.max
  simp only at k1 k2 n1 n2 hs hll hlm hl ⊢
  unfold maxLen at hlm hs
  clear h
  go_enter Try.func28, Try.ntmps28
  go_upto_region 1 with fail
  go_cut [4] (fun s4 wx => s4 = .pointer (some ⟨w.heap.size + 1, 0, none⟩) ∧ wx = (w.alloc (.cells #[.int .i64 3, .int .i64 n, .string s, .slice A l.length c] 24)).alloc (.cells #[.bool false, .bool (used1 s l), .bool (used2 n l), .bool (used3 n s)] 71))
  case first =>
    have u1 : Hid (used1 s l = (s.toList.isEmpty && ((l.length : Int) == 0))) := by show used1 s l = _; unfold used1; cases l <;> simp <;> omega
    have u2 : Hid (used2 n l = ((n == 0) && ((l.length : Int) == 0))) := by show used2 n l = _; unfold used2; cases l <;> simp <;> omega
    have u3 : Hid (used3 n s = ((n == 0) && s.toList.isEmpty)) := rfl
    cases c3 : s.toList.isEmpty
    all_goals cases c4 : ((l.length : Int) == 0)
    all_goals cases c5 : (n == 0)
    all_goals (go_wp2; go_meet; exact ⟨rfl, by rw [u1.out, u2.out, u3.out, c3, c4, c5]; rfl⟩)
  case rest =>
    obtain ⟨rfl, rfl⟩ := hcut
    have HB : Below w.heap.size w ((w.alloc (.cells #[.int .i64 3, .int .i64 n, .string s, .slice A l.length c] 24)).alloc (.cells #[.bool false, .bool (used1 s l), .bool (used2 n l), .bool (used3 n s)] 71)) := ((Below.refl _ _).alloc (Nat.le_refl _) _).alloc (by simp) _
    have hf : Hid (Val.formed ⟨3, n, s, l⟩ = (used3 n s && formedL l)) := by show Val.formed ⟨3, n, s, l⟩ = (used3 n s && formedL l); simp [Val.formed, used3]
    have hd : Hid (Val.depth ⟨3, n, s, l⟩ = depthL l + 1) := by show Val.depth ⟨3, n, s, l⟩ = depthL l + 1; simp [Val.depth]
    generalize used3 n s = u at *
    cases u
    · go_wp2
      go_ret2
      exact formedR_mk rfl (by rw [hf.out]; rfl) (fun h => by cases h) (fun _ => rfl) HB
    · have HF : Hid (Val.formed ⟨3, n, s, l⟩ = formedL l) := by show Val.formed ⟨3, n, s, l⟩ = formedL l; rw [hf.out]; rfl
      clear hf
      go_wp2
      go_loopw [2, 57] (fun d i wr => ∃ k : Nat, k ≤ l.length ∧ i = .int .i64 k ∧ d = .int .i64 (depthL (l.take k)) ∧ Hid (formedL (l.take k) = true) ∧ Below w.heap.size w wr) (fun _ i _ => l.length - (intOf i).toNat)
      case atStart => exact ⟨0, Nat.zero_le _, rfl, rfl, rfl, HB⟩
      case round =>
        obtain ⟨k, hk, rfl, rfl, hfk, hB⟩ := hrel
        clear HB
        by_cases hlt : k < l.length
        · obtain ⟨ad, A', c', rfl, h0, h1, h2, h3, hK⟩ := val_at (hl.below hB) hlt
          have hdk : depthL (l.take k) < 1000000000 := Nat.lt_of_le_of_lt (depthL_le.2 (fun x hx => depth_le_of_mem (List.mem_of_mem_take hx))) hdp
          have hdx : l[k].depth < 1000000000 := Nat.lt_of_le_of_lt (depth_le_of_mem (List.getElem_mem hlt)) hdp
          have HK := Lib.hid hK
          clear hK
          cases hx : l[k].formed
          · go_wp2_with (go_at_call 28; refine (ih _ (List.getElem_mem hlt) _ F _ (Kd.below HK.out ((Below.refl _ _).alloc (Nat.le_refl _) _))).mono ?_; unfold formedR; rintro e w1 ⟨rfl, hb⟩)
            go_ret2
            have hfl : formedL l = false := by
              cases hl' : formedL l
              · rfl
              · rw [formedL_all hl' _ (List.getElem_mem hlt)] at hx; cases hx
            exact formedR_mk rfl (by rw [HF.out, hfl]) (fun h => by cases h) (fun _ => rfl) (below_then (below_box hB _) hb)
          · go_wp2_with (go_at_call 28; refine (ih _ (List.getElem_mem hlt) _ F _ (Kd.below HK.out ((Below.refl _ _).alloc (Nat.le_refl _) _))).mono ?_; unfold formedR; rintro e w1 ⟨rfl, hb⟩)
            go_roundw
            case rel =>
              refine ⟨k + 1, by omega, by go_num, ?_, ?_, below_then (below_box hB _) hb⟩
              · rw [depthL_take hlt]
                congr 1
                have hm : Nat.max (depthL (l.take k)) l[k].depth = max (depthL (l.take k)) l[k].depth := rfl
                rw [hm]
                split <;> omega
              · exact (formedL_take hlt hfk.out).trans hx
            case measure => simp [intOf]; omega
        · obtain rfl : k = l.length := by omega
          go_wp2
          go_ret2
          have hfl : formedL l = true := by have := hfk.out; rwa [List.take_length] at this
          refine formedR_mk rfl (by rw [HF.out, hfl]) (fun _ => ?_) (fun h => by cases h) hB
          rw [hd.out]
          rfl

/-- codec.formed: its answer is whether a value is well-formed, and its depth. -/
theorem formed_calls : ∀ (v : Val) (w : World) (F : Foot) (cs : List Value), v.depth < 1000000000 → kVal.K w F v cs → Calls Try.prog 28 #[.agg cs.toArray] w (formedR v w) := by
  refine Val.ind (fun v ih => ?_)
  intro w F cs hd h
  by_cases hk : v.kind = 3
  · obtain ⟨k, n, s, l⟩ := v
    simp only at hk
    subst hk
    have hd' : depthL l < 1000000000 := by simp only [Val.depth, if_true] at hd; omega
    exact formed_list h hd' (fun x hx w F cs hK => ih x hx w F cs (Nat.lt_of_le_of_lt (depth_le_of_mem hx) hd') hK)
  · exact formed_flat h hk
end Go.Proofs.Ytpmokmhakdkpdaa.B
