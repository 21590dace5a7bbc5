import Derived.Test.YtpmokmhakdkpdaaRValueA
namespace Go.Proofs.Ytpmokmhakdkpdaa.B
open Go.RowKit

theorem str_empty : (⟨#[]⟩ : ByteArray) = empty := rfl
theorem make_leave {fn : Func} (hfn : fn.results = #[.cell 2 24]) {R : Ending → World → Prop} {w2 : World} {b : Nat} {k n : Int} {s : ByteArray} {l : Value} (HV : VC w2 b k n s l) {tmps : Array Value} (hp : tmps.getD 2 undef = .pointer (some ⟨b, 0, none⟩))
    (hR : R (.returned (.agg #[.int .i64 k, .int .i64 n, .string s, l])) w2) (x : Exit) (hx : x = .ret ∨ x = .normal) : bodyPost Try.prog fn R x { tmps := tmps, defers := [] } w2 := by
  rcases hx with rfl | rfl
  · exact bodyPost_ret (results_cell hfn _ _ b _ _ _ _ hp HV.heap Try.underlying24 rfl (by kernel_rfl)) rfl hR
  · exact bodyPost_end (results_cell hfn _ _ b _ _ _ _ hp HV.heap Try.underlying24 rfl (by kernel_rfl)) rfl hR
set_option maxRecDepth 100000 in
theorem Int_calls {w : World} {n : Int} : Calls Try.prog 23 #[.int .i64 n] w fun e w' => e = .returned (.agg #[.int .i64 1, .int .i64 n, .string ⟨#[]⟩, .slice none 0 0]) ∧ Below w.heap.size w w' := by
  have HV := Lib.hid (VC.new w 1 n ⟨#[]⟩ (.slice none 0 0))
  go_enter Try.func23, Try.ntmps23
  go_wp2
  refine make_leave rfl HV.out rfl ?_ _ (.inl rfl)
  exact ⟨rfl, by (with_reducible repeat (first | exact Below.refl _ _ | assumption | refine below_drew ?_ | refine below_drewN ?_ _ | refine below_box ?_ _))⟩
set_option maxRecDepth 100000 in
theorem Text_calls {w : World} {s : ByteArray} : Calls Try.prog 24 #[.string s] w fun e w' => e = .returned (.agg #[.int .i64 2, .int .i64 0, .string s, .slice none 0 0]) ∧ Below w.heap.size w w' := by
  have HV := Lib.hid (VC.new w 2 0 s (.slice none 0 0))
  go_enter Try.func24, Try.ntmps24
  go_wp2
  refine make_leave rfl HV.out rfl ?_ _ (.inl rfl)
  exact ⟨rfl, by (with_reducible repeat (first | exact Below.refl _ _ | assumption | refine below_drew ?_ | refine below_drewN ?_ _ | refine below_box ?_ _))⟩
set_option maxRecDepth 100000 in
theorem List_calls {w : World} {A : Option Addr} {m c : Nat} : Calls Try.prog 22 #[.slice A m c] w fun e w' => e = .returned (.agg #[.int .i64 3, .int .i64 0, .string ⟨#[]⟩, .slice A m c]) ∧ Below w.heap.size w w' := by
  have HV := Lib.hid (VC.new w 3 0 ⟨#[]⟩ (.slice A m c))
  go_enter Try.func22, Try.ntmps22
  go_wp2
  refine make_leave rfl HV.out rfl ?_ _ (.inl rfl)
  exact ⟨rfl, by (with_reducible repeat (first | exact Below.refl _ _ | assumption | refine below_drew ?_ | refine below_drewN ?_ _ | refine below_box ?_ _))⟩
end Go.Proofs.Ytpmokmhakdkpdaa.B
