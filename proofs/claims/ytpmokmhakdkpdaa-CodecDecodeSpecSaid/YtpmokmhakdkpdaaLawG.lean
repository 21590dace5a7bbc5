import Derived.Test.YtpmokmhakdkpdaaRReadF
import Derived.Test.YtpmokmhakdkpdaaLawB
namespace Go.Proofs.Ytpmokmhakdkpdaa.B
open Go.RowKit

set_option maxRecDepth 100000 in
set_option maxHeartbeats 2000000 in
/-- CodecDecodeSpec answers true. -/
theorem decodeSpec_calls {raw : List UInt8} {w : World} {F : Foot} {R : Option Addr} {cr : Nat} (hr : SL kU8 w F R cr raw) :
    Calls Try.prog 4 #[.slice R raw.length cr] w (Gives (.bool true) w) := by
  have HR := Lib.hid hr
  have hrmx := Nat.le_trans hr.le hr.max
  unfold maxLen at hrmx
  clear hr
  go_enter Try.func4, Try.ntmps4
  go_wp2_with fail
  refine sane_calls.mono ?_
  rintro e w1 ⟨rfl, hb1⟩
  by_cases hlen : 2000 < raw.length
  · go_wp2
    go_ret
    exact ⟨rfl, hb1⟩
  go_wp2_with fail
  refine (decode_calls (HR.out.below hb1) (by omega)).mono ?_
  rintro e w2 ⟨cs2, F2, rfl, hK2, _, hb2⟩
  have HK2 := Lib.hid hK2
  obtain ⟨A2, c2, rfl, _⟩ := kVal_open hK2
  clear hK2
  have HV2 := Lib.hid (VC.new w2 (decodeV raw).kind (decodeV raw).n (decodeV raw).s (.slice A2 (decodeV raw).l.length c2))
  go_wp2_with fail
  refine (rdecode_calls (HR.out.below (below_then hb1 (below_box hb2 _))) (by omega)).mono ?_
  rintro e w3 ⟨cs3, F3, rfl, hK3, _, hb3⟩
  have HK3 := Lib.hid hK3
  obtain ⟨A3, c3, rfl, _⟩ := kVal_open hK3
  clear hK3
  obtain ⟨⟨f1, f2, f3, f4⟩, _⟩ := (HV2.out.below (below_box hb3 (.cells #[.int .i64 (decodeV raw).kind, .int .i64 (decodeV raw).n, .string (decodeV raw).s, .slice A3 (decodeV raw).l.length c3] 24))).facts
  have HB : Hid (Below w.heap.size w w3) := below_then hb1 (below_then (below_box hb2 _) hb3)
  go_wp2_with fail
  refine (rsame_as (sameM_eq rfl) (Kd.below HK2.out (below_then (below_box (Below.refl _ _) _) (below_box hb3 _))) (Kd.below HK3.out (below_box (Below.refl _ _) _))).mono ?_
  rintro e w4 ⟨rfl, hb4⟩
  go_wp2
  go_ret
  exact ⟨by simp, below_then (below_box HB.out _) hb4⟩
end Go.Proofs.Ytpmokmhakdkpdaa.B
