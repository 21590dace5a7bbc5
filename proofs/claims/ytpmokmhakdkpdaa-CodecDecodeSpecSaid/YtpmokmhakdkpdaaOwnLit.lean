import Derived.Test.YtpmokmhakdkpdaaOwn
import Derived.Test.YtpmokmhakdkpdaaNumeral
namespace Go.Proofs.Ytpmokmhakdkpdaa.B
open Go.RowKit
section
variable {α : Type} {d : Kd α} {e : TypeId} {w : World} {B : Nat} {F : Foot}
/-- A row of one element that is laid in a new block. -/
theorem Own.lit1 (x : α) (cs : List Value) (hs : cs.length = d.sz) (hK : d.K (w.alloc (.cells cs.toArray e)) F x cs) (hF : ¬ F w.heap.size) (hB : B ≤ w.heap.size) :
    Own d e (w.alloc (.cells cs.toArray e)) B F (.slice (some ⟨w.heap.size, 0, none⟩) 1 1) [x] := by
  refine ⟨cs, ?_, CellsOf.one x cs hK, fun k hk => ?_⟩
  · have := World.ownsRow_lit (e := e) (size := d.sz) w cs.toArray 1 hB (by simp [maxLen]) (by simpa using hs)
    simpa using this
  · have : w.heap.size = k := by simpa [Value.ownBlock] using hk
    subst this
    exact hF
/-- A row that is laid in a new block. -/
theorem Own.lit (xs : List α) (cells : List Value) (n : Nat) (hn : xs.length = n) (hm : n ≤ maxLen) (hc : CellsOf d (w.alloc (.cells cells.toArray e)) F xs cells) (hF : ¬ F w.heap.size) (hB : B ≤ w.heap.size) :
    Own d e (w.alloc (.cells cells.toArray e)) B F (.slice (some ⟨w.heap.size, 0, none⟩) n n) xs := by
  subst hn
  refine ⟨cells, ?_, hc, fun k hk => ?_⟩
  · have := World.ownsRow_lit (e := e) (size := d.sz) w cells.toArray xs.length hB hm (by simpa using hc.1)
    simpa using this
  · have : w.heap.size = k := by simpa [Value.ownBlock] using hk
    subst this
    exact hF
end
theorem OwnB.lit1 (w : World) (b : UInt8) {n : Int} (hn : n = (b.toNat : Int)) : OwnB (w.alloc (.cells #[.int .u8 n] 5)) w.heap.size (.slice (some ⟨w.heap.size, 0, none⟩) 1 1) [b] := by
  subst hn
  exact Own.lit1 (d := kU8) b [.int .u8 (b.toNat : Int)] rfl rfl (fun h => h) (Nat.le_refl _)
end Go.Proofs.Ytpmokmhakdkpdaa.B
