import Derived.Test.YtpmokmhakdkpdaaSaneB
import Derived.Test.YtpmokmhakdkpdaaCodecLaws
import Derived.Test.YtpmokmhakdkpdaaRefA
namespace Go.Proofs.Ytpmokmhakdkpdaa.B
open Go.RowKit

theorem num_ok {n : Int} (h : I64 n) : Val.ok ⟨1, n, empty, []⟩ := ⟨i64_1, h, empty_le, Nat.zero_le _, trivial⟩
theorem num_depth (n : Int) : (⟨1, n, empty, []⟩ : Val).depth < 1000000000 := by simp [Val.depth]
theorem size_num {n : Int} (hn : I64 n) {m : Nat} (hm : (encodeM ⟨1, n, empty, []⟩).length = m) {w : World} :
    Calls Try.prog 14 #[.agg #[.int .i64 1, .int .i64 n, .string ⟨#[]⟩, .slice none 0 0]] w fun e w' => e = .returned (.tuple #[.int .i64 m, .int .i64 0]) ∧ Below w.heap.size w w' := by
  have h := size_calls (w := w) (num_depth n) (by have := (enc_num_bd hn).2; omega) (kI w (fun _ => False) hn)
  rwa [check_num, hm] at h
theorem encode_num {n : Int} (hn : I64 n) {w : World} :
    Calls Try.prog 12 #[.agg #[.int .i64 1, .int .i64 n, .string ⟨#[]⟩, .slice none 0 0]] w fun e w' => ∃ v', e = .returned (.tuple #[v', .int .i64 0]) ∧ OwnB w' w.heap.size v' (encodeM ⟨1, n, empty, []⟩) ∧ Below w.heap.size w w' := by
  have h := encode_calls (w := w) (num_depth n) (by have := (enc_num_bd hn).2; omega) (kI w (fun _ => False) hn)
  rwa [check_num] at h
theorem decodeV_enc {v : Val} (h : checkM v = 0) (hok : v.ok) : decodeV (encodeM v) = v := by unfold decodeV; rw [decodeM_enc h hok]; rfl
theorem decodeE_enc {v : Val} (h : checkM v = 0) (hok : v.ok) : decodeE (encodeM v) = 0 := by unfold decodeE; rw [decodeM_enc h hok]; rfl
/-- Decode of an encoding. -/
theorem decode_enc {v : Val} (h : checkM v = 0) (hok : v.ok) {w : World} {F : Foot} {A : Option Addr} {c : Nat} (hs : SL kU8 w F A c (encodeM v)) (hl : (encodeM v).length ≤ 1000000000) :
    Calls Try.prog 18 #[.slice A (encodeM v).length c] w fun e w' => ∃ A' c' F', e = .returned (.tuple #[.agg #[.int .i64 v.kind, .int .i64 v.n, .string v.s, .slice A' v.l.length c'], .int .i64 0]) ∧ kVal.K w' F' v [.int .i64 v.kind, .int .i64 v.n, .string v.s, .slice A' v.l.length c'] ∧ Below w.heap.size w w' := by
  refine (decode_calls hs hl).mono ?_
  rintro e w1 ⟨cs, F', rfl, hK, _, hb⟩
  rw [decodeV_enc h hok] at hK
  rw [decodeE_enc h hok]
  obtain ⟨A', c', rfl, _⟩ := kVal_open hK
  exact ⟨A', c', F', rfl, hK, hb⟩

set_option maxRecDepth 100000 in
set_option maxHeartbeats 4000000 in
/-- CodecNumbers answers true. -/
theorem numbers_calls {a b : Int} {w : World} (ha : I64 a) (hb : I64 b) : Calls Try.prog 9 #[.int .i64 a, .int .i64 b] w (Gives (.bool true) w) := by
  obtain ⟨m, hm⟩ : ∃ m, (encodeM ⟨1, a, empty, []⟩).length = m := ⟨_, rfl⟩
  obtain ⟨n, hn⟩ : ∃ n, (encodeM ⟨1, b, empty, []⟩).length = n := ⟨_, rfl⟩
  have hm2 := enc_num_bd ha
  have hn2 := enc_num_bd hb
  rw [hm] at hm2
  rw [hn] at hn2
  have hmono : (0 ≤ a ∧ a ≤ b ∨ a < 0 ∧ b ≤ a) → m ≤ n := fun h => by have := enc_num_mono h; omega
  have Hm := Lib.hid hm
  have Hn := Lib.hid hn
  clear hm hn
  obtain ⟨m1, m2⟩ := hm2
  obtain ⟨n1, n2⟩ := hn2
  have HMONO := Lib.hid hmono
  have HA := Lib.hid ha
  have HB := Lib.hid hb
  have HD : Hid ((encodeM ⟨1, a, empty, []⟩).length ≤ 1000000000) := by have := Hm.out; show (encodeM ⟨1, a, empty, []⟩).length ≤ 1000000000; omega
  obtain ⟨a1, a2⟩ := ha
  obtain ⟨b1, b2⟩ := hb
  clear hmono
  have hc : (0 ≤ a ∧ a ≤ b ∧ m ≤ n) ∨ (0 ≤ a ∧ b < a) ∨ (a < 0 ∧ b ≤ a ∧ m ≤ n) ∨ (a < 0 ∧ a < b) := by
    rcases Int.lt_or_le a 0 with h | h
    · rcases Int.lt_or_le a b with h' | h'
      · exact .inr (.inr (.inr ⟨h, h'⟩))
      · exact .inr (.inr (.inl ⟨h, h', HMONO.out (.inr ⟨h, h'⟩)⟩))
    · rcases Int.lt_or_le b a with h' | h'
      · exact .inr (.inl ⟨h, h'⟩)
      · exact .inl ⟨h, h', HMONO.out (.inl ⟨h, h'⟩)⟩
  have HC := Lib.hid hc
  clear hc HMONO
  go_enter Try.func9, Try.ntmps9
  go_wp2_with fail
  refine sane_calls.mono ?_
  rintro e w1 ⟨rfl, hb1⟩
  go_wp2_with fail
  refine Int_calls.mono ?_
  rintro e w2 ⟨rfl, hb2⟩
  go_wp2_with fail
  refine (size_num HA.out Hm.out).mono ?_
  rintro e w3 ⟨rfl, hb3⟩
  go_wp2_with fail
  refine Int_calls.mono ?_
  rintro e w4 ⟨rfl, hb4⟩
  go_wp2_with fail
  refine (size_num HB.out Hn.out).mono ?_
  rintro e w5 ⟨rfl, hb5⟩
  have HB5 : Below w.heap.size w w5 := below_then (below_then (below_then (below_then hb1 hb2) hb3) hb4) hb5
  clear hb1 hb2 hb3 hb4 hb5
  rcases HC.out with ⟨h1, h2, h3⟩ | ⟨h1, h2⟩ | ⟨h1, h2, h3⟩ | ⟨h1, h2⟩
  all_goals
    go_wp2_with fail
    refine Int_calls.mono ?_
    rintro e w6 ⟨rfl, hb6⟩
    go_wp2_with fail
    refine (encode_num HA.out).mono ?_
    rintro e w7 ⟨v7, rfl, hown7, hb7⟩
    obtain ⟨A7, c7, rfl, hsl7⟩ := hown7.sl_all
    go_wp2_with fail
    refine (decode_enc (check_num a) (num_ok HA.out) hsl7 HD.out).mono ?_
    rintro e w8 ⟨A8, c8, F8, rfl, hK8, hb8⟩
    have HB8 : Below w.heap.size w w8 := below_then (below_then (below_then HB5 hb6) hb7) hb8
    clear hb6 hb7 hb8 hK8 hsl7 hown7
    obtain ⟨⟨f1, f2, f3, f4⟩, _⟩ := (VC.new w8 1 a empty (.slice A8 0 c8)).facts
    go_wp2
    go_ret
    exact ⟨by show Ending.returned (.bool empty.toList.isEmpty) = _; rw [empty_toList]; rfl, below_box HB8 _⟩
end Go.Proofs.Ytpmokmhakdkpdaa.B
