import Derived.Test.YtpmokmhakdkpdaaBase
import Derived.Test.YtpmokmhakdkpdaaProg
import Derived.Laws.EntriesVeiled
namespace Go.Proofs.Ytpmokmhakdkpdaa.B
open Go.RowKit
/-- The array of the writers lies at block ga; the variable that holds its address at block gb. -/
structure Writers (w : World) (ga gb : Nat) : Prop where
  arr : w.heap[ga]? = some (.cells #[.nilFunc, .func (.func 37) #[] #[], .func (.func 40) #[] #[], .func (.func 41) #[] #[.pointer (some ⟨gb, 0, none⟩)]] 66 (0, 0))
  var : w.heap[gb]? = some (.cells #[.pointer (some ⟨ga, 0, none⟩)] 50 (0, 0))
theorem lt_of_heap {w : World} {g : Nat} {o : Obj} (h : w.heap[g]? = some o) : g < w.heap.size := (Array.getElem?_eq_some_iff.1 h).1
theorem Writers.move {w w' : World} {ga gb : Nat} (h : Writers w ga gb) (ha : w'.heap[ga]? = w.heap[ga]?) (hb : w'.heap[gb]? = w.heap[gb]?) : Writers w' ga gb := ⟨ha.trans h.arr, hb.trans h.var⟩
theorem cell_of_heap {w : World} {g : Nat} {cs : Array Value} {t : TypeId} (h : w.heap[g]? = some (.cells cs t (0, 0))) (i : Nat) : w.cell? ⟨g, i, none⟩ = cs[i]? := by simp [World.cell?, h]

set_option maxRecDepth 100000 in
/-- codec.newWriter lays the array and the variable in new blocks. -/
theorem newWriter_calls {w : World} :
    Calls Try.prog 26 #[] w fun e w' => e = .returned (.pointer (some ⟨w.heap.size, 0, none⟩)) ∧ Writers w' w.heap.size (w.heap.size + 1) ∧ Below w.heap.size w w' ∧ w'.heap.size = w.heap.size + 2 := by
  have hmf : ∀ (fn : Fn) (first cap : Array Value) (w : World), (Instr.makeFunc fn first cap).run Try.prog w = .ok (.func fn first cap) w := fun _ _ _ _ => rfl
  go_enter Try.func26, Try.ntmps26
  go_wp2
  go_ret
  refine ⟨rfl, ⟨?_, ?_⟩, by (with_reducible repeat (first | exact Below.refl _ _ | assumption | refine below_drew ?_ | refine below_drewN ?_ _ | refine below_box ?_ _)), by simp⟩
  · rw [Below.heap_alloc _ _ _ (by simp)]
    exact heap_alloc_new w _
  · have := heap_alloc_new (w.alloc (.cells #[.nilFunc, .func (.func 37) #[] #[], .func (.func 40) #[] #[], .func (.func 41) #[] #[.pointer (some ⟨w.heap.size + 1, 0, none⟩)]] 66)) (.cells #[.pointer (some ⟨w.heap.size, 0, none⟩)] 50)
    rw [World.size_alloc] at this
    exact this
end Go.Proofs.Ytpmokmhakdkpdaa.B
