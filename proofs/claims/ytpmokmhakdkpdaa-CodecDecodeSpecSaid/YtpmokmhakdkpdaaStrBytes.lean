/- A string made into bytes: the row that the model lays. -/
import Derived.Test.YtpmokmhakdkpdaaNumeral
import Derived.Laws.IdiomStrings
namespace Go.Proofs.Ytpmokmhakdkpdaa.B
open Go.RowKit
theorem conv_bytes (w : World) (s : ByteArray) (hs : s.size ≤ maxLen) : ∃ cap W, (convert 9 27 (.string s)).run Try.prog w = .ok (.slice (some ⟨w.heap.size, 0, none⟩) s.size cap) W ∧
    SL kU8 W (fun k => k = w.heap.size) (some ⟨w.heap.size, 0, none⟩) cap s.data.toList ∧ Below w.heap.size w W := by
  refine ⟨_, _, run_bytes_of_string w _ _ 5 s Try.underlying9 Try.underlying27 Try.underlying5, ⟨?_, grownCap_le_maxLen _ _ _ _ hs, fun j x hj => ?_⟩, ?_⟩
  · rw [Array.length_toList]; exact grownCap_ge w s.size 0 _
  · have hj' : j < s.data.size := by have := (List.getElem?_eq_some_iff.1 hj).1; simpa using this
    refine ⟨_, [.int .u8 x.toNat], rfl, rfl, by show w.heap.size < (w.heap.push _).size; simp, rfl, fun i u hu => ?_⟩
    cases i with
    | succ i => simp at hu
    | zero =>
      simp only [List.getElem?_cons_zero, Option.some.injEq] at hu
      subst hu
      have e : (⟨w.heap.size, 0, none⟩ : Addr).add (j * kU8.sz + 0) = ⟨w.heap.size, j, none⟩ := by
        show (⟨w.heap.size, 0, none⟩ : Addr).add (j * 1 + 0) = _
        unfold Addr.add; split <;> simp_all
      rw [e]
      have hb : (w.drew.alloc (.cells (bytesRow s (grownCap w s.size 0 5)) 5 ((bytesRow s (grownCap w s.size 0 5)).size, (bytesRow s (grownCap w s.size 0 5)).size + 1))).heap[w.heap.size]? = some (.cells (bytesRow s (grownCap w s.size 0 5)) 5 ((bytesRow s (grownCap w s.size 0 5)).size, (bytesRow s (grownCap w s.size 0 5)).size + 1)) := by
        show (w.heap.push _)[w.heap.size]? = _
        simp
      have hx : s.data[j] = x := by
        rw [List.getElem?_eq_getElem (by simpa using hj')] at hj
        injection hj with hj
      have := bytesRow_at s (grownCap w s.size 0 5) j hj'
      rw [hx] at this
      unfold World.cell?
      rw [hb]
      exact this
  · exact below_box (below_drew (Below.refl _ _)) _
end Go.Proofs.Ytpmokmhakdkpdaa.B
