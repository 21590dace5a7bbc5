import Derived.Test.YtpmokmhakdkpdaaSanePure
import Derived.Test.YtpmokmhakdkpdaaStrBytes
import Derived.Test.YtpmokmhakdkpdaaMake
import Derived.Test.YtpmokmhakdkpdaaOwnLit
import Derived.Test.YtpmokmhakdkpdaaEncode
import Derived.Test.YtpmokmhakdkpdaaSize
import Derived.Test.YtpmokmhakdkpdaaDecode
import Derived.Test.YtpmokmhakdkpdaaSameB
import Derived.Test.YtpmokmhakdkpdaaCheck
namespace Go.Proofs.Ytpmokmhakdkpdaa.B
open Go.RowKit

theorem kA (w : World) (F : Foot) : kVal.K w F vA [.int .i64 1, .int .i64 (-3), .string ⟨#[]⟩, .slice none 0 0] :=
  kVal_mk vA i64_1 (by unfold I64 vA; decide) empty_le (SL.nil (Nat.zero_le _))
theorem kI (w : World) (F : Foot) {n : Int} (hn : I64 n) : kVal.K w F ⟨1, n, empty, []⟩ [.int .i64 1, .int .i64 n, .string ⟨#[]⟩, .slice none 0 0] :=
  kVal_mk ⟨1, n, empty, []⟩ i64_1 hn empty_le (SL.nil (Nat.zero_le _))
theorem kT (w : World) (F : Foot) {s : ByteArray} (hs : s.size ≤ maxLen) : kVal.K w F ⟨2, 0, s, []⟩ [.int .i64 2, .int .i64 0, .string s, .slice none 0 0] :=
  kVal_mk ⟨2, 0, s, []⟩ i64_2 i64_0 hs (SL.nil (Nat.zero_le _))
theorem kL {w : World} {F : Foot} {A : Option Addr} {c : Nat} {l : List Val} (h : SL kVal w F A c l) : kVal.K w F ⟨3, 0, empty, l⟩ [.int .i64 3, .int .i64 0, .string ⟨#[]⟩, .slice A l.length c] :=
  kVal_mk ⟨3, 0, empty, l⟩ i64_3 i64_0 empty_le h
theorem kB (w : World) : kVal.K (w.alloc (.cells #[.int .i64 1, .int .i64 100, .string ⟨#[]⟩, .slice none 0 0, .int .i64 2, .int .i64 0, .string ab, .slice none 0 0] 24)) (fun k => k = w.heap.size) vB [.int .i64 3, .int .i64 0, .string ⟨#[]⟩, .slice (some ⟨w.heap.size, 0, none⟩) 2 2] := by
  have ho : Own kVal 24 (w.alloc (.cells [.int .i64 1, .int .i64 100, .string ⟨#[]⟩, .slice none 0 0, .int .i64 2, .int .i64 0, .string ab, .slice none 0 0].toArray 24)) 0 (fun _ => False) _ [⟨1, 100, empty, []⟩, ⟨2, 0, ab, []⟩] :=
    Own.lit (d := kVal) [⟨1, 100, empty, []⟩, ⟨2, 0, ab, []⟩] [.int .i64 1, .int .i64 100, .string ⟨#[]⟩, .slice none 0 0, .int .i64 2, .int .i64 0, .string ab, .slice none 0 0] 2 rfl (by decide)
      ((CellsOf.one _ _ (kI _ _ (by unfold I64; decide))).app (CellsOf.one _ _ (kT _ _ (by decide)))) (fun h => h) (Nat.zero_le _)
  obtain ⟨A, c, h1, h2⟩ := ho.sl (F' := fun k => k = w.heap.size) (fun _ h _ => h.elim) (fun k hk => (by simpa [Value.ownBlock] using hk : w.heap.size = k).symm)
  injection h1 with e1 e2 e3
  subst e1; subst e3
  exact kL h2
theorem kZ (w : World) (F : Foot) : kVal.K w F ⟨0, 0, empty, []⟩ [.int .i64 0, .int .i64 0, .string ⟨#[]⟩, .slice none 0 0] :=
  kVal_mk ⟨0, 0, empty, []⟩ i64_0 i64_0 empty_le (SL.nil (Nat.zero_le _))
theorem encodeA : encodeM vA = [1, 5] := by unfold encodeM; rw [checkA]; exact encA
theorem encodeB : encodeM vB = [3, 2, 1, 200, 1, 2, 2, 97, 98] := by unfold encodeM; rw [checkB]; exact encB
theorem encode_A {w : World} : Calls Try.prog 12 #[.agg #[.int .i64 1, .int .i64 (-3), .string ⟨#[]⟩, .slice none 0 0]] w fun e w' => ∃ v', e = .returned (.tuple #[v', .int .i64 0]) ∧ OwnB w' w.heap.size v' [1, 5] ∧ Below w.heap.size w w' := by
  have := encode_calls (v := vA) (by decide +kernel) (by rw [encodeA]; decide) (kA w (fun _ => False))
  rwa [checkA, encodeA] at this
theorem encode_B {w : World} {F : Foot} {A : Option Addr} (h : kVal.K w F vB [.int .i64 3, .int .i64 0, .string ⟨#[]⟩, .slice A 2 2]) : Calls Try.prog 12 #[.agg #[.int .i64 3, .int .i64 0, .string ⟨#[]⟩, .slice A 2 2]] w fun e w' => ∃ v', e = .returned (.tuple #[v', .int .i64 0]) ∧ OwnB w' w.heap.size v' [3, 2, 1, 200, 1, 2, 2, 97, 98] ∧ Below w.heap.size w w' := by
  have := encode_calls (v := vB) (by decide +kernel) (by rw [encodeB]; decide) h
  rwa [checkB, encodeB] at this
theorem size_B {w : World} {F : Foot} {A : Option Addr} (h : kVal.K w F vB [.int .i64 3, .int .i64 0, .string ⟨#[]⟩, .slice A 2 2]) : Calls Try.prog 14 #[.agg #[.int .i64 3, .int .i64 0, .string ⟨#[]⟩, .slice A 2 2]] w fun e w' => e = .returned (.tuple #[.int .i64 9, .int .i64 0]) ∧ Below w.heap.size w w' := by
  have := size_calls (v := vB) (by decide +kernel) (by rw [encodeB]; decide) h
  rwa [checkB, encodeB] at this
end Go.Proofs.Ytpmokmhakdkpdaa.B
