import Derived.Test.YtpmokmhakdkpdaaRValueA
import Derived.Defers
import Derived.Recover
import Derived.Laws.Pointers
import Derived.Tactics2
import Derived.RegionTactic
namespace Go.Proofs.Ytpmokmhakdkpdaa.B
open Go.RowKit

/-- The error that is handed back, at block b. -/
def EC (w : World) (b : Nat) (x : Int) : Prop := w.heap[b]? = some (.cells #[.int .i64 x] 28 (0, 0))
theorem EC.facts {w : World} {b : Nat} {x : Int} (h : EC w b x) : w.cell? ⟨b, 0, none⟩ = some (.int .i64 x) ∧ w.frozen? ⟨b, 0, none⟩ = false := by
  unfold EC at h
  simp [World.cell?, World.frozen?, h]
theorem EC.set {w : World} {b : Nat} {x y : Int} (h : EC w b x) : EC (w.setCell ⟨b, 0, none⟩ (.int .i64 y)) b y := by
  unfold EC at h ⊢
  simp [World.setCell, Array.getElem?_modify, h]
theorem EC.other {w : World} {b c o : Nat} {x : Int} {u : Value} (h : EC w b x) (hne : b ≠ c) : EC (w.setCell ⟨c, o, none⟩ u) b x := (Below.heap_setCell _ _ _ _ hne).trans h
theorem VC.other {w : World} {b c o : Nat} {k n : Int} {s : ByteArray} {l u : Value} (h : VC w b k n s l) (hne : b ≠ c) : VC (w.setCell ⟨c, o, none⟩ u) b k n s l := ⟨(Below.heap_setCell _ _ _ _ hne).trans h.heap⟩

set_option maxRecDepth 100000 in
set_option maxHeartbeats 1000000 in
theorem catch_panicking {w : World} {b : Nat} {k n x : Int} {s : ByteArray} {l : Value} (hv : VC w b k n s l) (he : EC w (b + 1) x) :
    CallsD Try.prog 31 #[.pointer (some ⟨b, 0, none⟩), .pointer (some ⟨b + 1, 0, none⟩)] (.panicking codeErr) w fun e u' w' =>
      e = .returned (.tuple #[]) ∧ u' = .panicking [{ v := .iface 28 (.int .i64 10), recovered := true }] ∧ VC w' b 0 0 ⟨#[]⟩ (.slice none 0 0) ∧ EC w' (b + 1) 10 ∧ Below b w w' := by
  obtain ⟨⟨f1, f2, f3, f4⟩, f5, f6, f7, f8⟩ := hv.facts
  obtain ⟨e1, e2⟩ := he.facts
  have hta : ∀ w, (Instr.typeAssert (.iface 28 (.int .i64 10)) 20 28 false).run Try.prog w = .ok (.int .i64 10) w := fun w => by
    simp [Instr.typeAssert, run_underlying Try.underlying28, go_sem, Result.andThen]
  have HV := Lib.hid hv
  have HE := Lib.hid he
  clear hv he
  refine callsD_of_wpS Try.func31 rfl fun c₀ cs hu => ?_
  apply wpS_seq
  apply wpS_region
  simp [wpOpsS, go_sem, recoverD, hu, Try.ntmps31, Exit.thenS, codeErr]
  refine wpS_of_wp ?_
  change Code.wp Try.prog _ _ { tmps := #[.pointer (some ⟨b, 0, none⟩), .pointer (some ⟨b + 1, 0, none⟩), .iface 28 (.int .i64 10), .iface 28 (.int .i64 10), undef, undef, undef, undef, undef], defers := [] } w
  go_wp2
  go_region
  go_wp2
  have hV := ((((HV.out.set0 (k' := 0)).set1 (n' := 0)).set2 (s' := ⟨#[]⟩)).set3 (l' := .slice none 0 0)).other (c := b + 1) (o := 0) (u := .int .i64 10) (by omega)
  have hE := ((((HE.out.other (c := b) (o := 0) (u := .int .i64 0) (by omega)).other (c := b) (o := 1) (u := .int .i64 0) (by omega)).other (c := b) (o := 2) (u := .string ⟨#[]⟩) (by omega)).other (c := b) (o := 3) (u := .slice none 0 0) (by omega)).set (y := 10)
  refine ⟨rfl, _, rfl, _, results_none rfl _ _ _, rfl, rfl, ⟨hV.heap⟩, ?_, ?_⟩
  · exact hE
  · refine below_drew ?_
    refine Below.setCell ?_ (Nat.le_succ b) _
    refine Below.setCell ?_ (Nat.le_refl b) _
    refine Below.setCell ?_ (Nat.le_refl b) _
    refine Below.setCell ?_ (Nat.le_refl b) _
    refine Below.setCell ?_ (Nat.le_refl b) _
    exact Below.refl b w
theorem catch_idle {w : World} {b : Nat} :
    CallsD Try.prog 31 #[.pointer (some ⟨b, 0, none⟩), .pointer (some ⟨b + 1, 0, none⟩)] .returning w fun e u' w' => e = .returned (.tuple #[]) ∧ u' = .returning ∧ w' = w := by
  refine callsD_of_wpS Try.func31 rfl fun c₀ cs hu => ?_
  apply wpS_seq
  apply wpS_region
  simp [wpOpsS, go_sem, recoverD, hu, Try.ntmps31, Exit.thenS]
  refine wpS_of_wp ?_
  change Code.wp Try.prog _ _ { tmps := #[.pointer (some ⟨b, 0, none⟩), .pointer (some ⟨b + 1, 0, none⟩), .nilIface, .nilIface, undef, undef, undef, undef, undef], defers := [] } w
  go_wp2
  cases c₀
  simp_all [bodyPostS, results, Try.results31]
end Go.Proofs.Ytpmokmhakdkpdaa.B
