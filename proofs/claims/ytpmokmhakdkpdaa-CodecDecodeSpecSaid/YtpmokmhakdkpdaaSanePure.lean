/- The examples of the codec's chapter, in plain Lean. -/
import Derived.Test.YtpmokmhakdkpdaaDecode
import Derived.Test.YtpmokmhakdkpdaaEncode
namespace Go.Proofs.Ytpmokmhakdkpdaa.B
def ab : ByteArray := ⟨#[97, 98]⟩
def vA : Val := ⟨1, -3, empty, []⟩
def vB : Val := ⟨3, 0, empty, [⟨1, 100, empty, []⟩, ⟨2, 0, ab, []⟩]⟩
theorem checkA : checkM vA = 0 := by decide +kernel
theorem checkB : checkM vB = 0 := by decide +kernel
theorem numeral_5 : numeral 5 = [5] := by rw [numeral_lt (by decide)]; rfl
theorem encA : enc vA = [1, 5] := by
  rw [vA, enc_int, show zig (-3) = 5 by decide, numeral_5]
theorem encB : enc vB = [3, 2, 1, 200, 1, 2, 2, 97, 98] := by
  rw [vB, enc_list]
  simp only [encL, enc_int, enc_text]
  rw [show zig 100 = 200 by decide, show ([(⟨1, 100, empty, []⟩ : Val), ⟨2, 0, ab, []⟩]).length = 2 from rfl, show ab.size = 2 from rfl, numeral_lt (u := 2) (by decide), numeral_ge (u := 200) (by decide), numeral_lt (u := 200 / 128) (by decide)]
  rfl
theorem decB : decodeM [3, 2, 1, 200, 1, 2, 2, 97, 98] = some vB := by rfl
theorem dec0 : decodeM [] = none := rfl
theorem dec1 : decodeM [1, 128, 0] = none := rfl
theorem dec2 : decodeM [1, 5, 0] = none := rfl
theorem dec3 : decodeM [2, 3, 97] = none := rfl
theorem checkZ : checkM ⟨0, 0, empty, []⟩ = 1 := by decide +kernel
end Go.Proofs.Ytpmokmhakdkpdaa.B
