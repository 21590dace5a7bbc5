/- Disks as a Lean type, what cells say of them; what the disk's chapter says of them. No program in sight. -/
import Derived.Test.YtmcdimcjmafaoaaKinds
namespace Go.Proofs.Ytmcdimcjmafaoaa.B
set_option linter.unusedVariables false
set_option linter.unusedSimpArgs false
open Go.RowKit

structure Wr where
  pos : Int
  data : List UInt8
structure Dsk where
  secs : List (List UInt8)
  pend : List Wr
  left : Int
  stop : Bool
def kWr : Kd Wr := kMap (fun x => (x.pos, x.data)) (kProd kI64 kBytes)
def kDsk : Kd Dsk := kMap (fun d => (d.secs, d.pend, d.left, d.stop)) (kProd (kSl kBytes) (kProd (kSl kWr) (kProd kI64 kBool)))
theorem kWr_sz : kWr.sz = 2 := rfl
theorem kDsk_sz : kDsk.sz = 4 := rfl
section
variable {w : World} {F : Foot}
theorem kWr_open {x : Wr} {cs : List Value} (h : kWr.K w F x cs) : ∃ A c, cs = [.int .i64 x.pos, .slice A x.data.length c] ∧ I64 x.pos ∧ SL kU8 w F A c x.data := by
  obtain ⟨_, _, rfl, ⟨rfl, hp⟩, ⟨A, c, rfl, hs⟩⟩ := h
  exact ⟨A, c, rfl, hp, hs⟩
theorem kWr_mk {x : Wr} {A : Option Addr} {c : Nat} (hp : I64 x.pos) (hs : SL kU8 w F A c x.data) : kWr.K w F x [.int .i64 x.pos, .slice A x.data.length c] :=
  ⟨[.int .i64 x.pos], [.slice A x.data.length c], rfl, ⟨rfl, hp⟩, A, c, rfl, hs⟩
theorem kDsk_open {d : Dsk} {cs : List Value} (h : kDsk.K w F d cs) :
    ∃ A c A' c', cs = [.slice A d.secs.length c, .slice A' d.pend.length c', .int .i64 d.left, .bool d.stop] ∧ SL kBytes w F A c d.secs ∧ SL kWr w F A' c' d.pend ∧ I64 d.left := by
  obtain ⟨_, _, rfl, ⟨A, c, rfl, h1⟩, _, _, rfl, ⟨A', c', rfl, h2⟩, _, _, rfl, ⟨rfl, h3⟩, rfl⟩ := h
  exact ⟨A, c, A', c', rfl, h1, h2, h3⟩
theorem kDsk_mk {d : Dsk} {A A' : Option Addr} {c c' : Nat} (h1 : SL kBytes w F A c d.secs) (h2 : SL kWr w F A' c' d.pend) (h3 : I64 d.left) :
    kDsk.K w F d [.slice A d.secs.length c, .slice A' d.pend.length c', .int .i64 d.left, .bool d.stop] :=
  ⟨[.slice A d.secs.length c], [.slice A' d.pend.length c', .int .i64 d.left, .bool d.stop], rfl, ⟨A, c, rfl, h1⟩, [.slice A' d.pend.length c'], [.int .i64 d.left, .bool d.stop], rfl, ⟨A', c', rfl, h2⟩, [.int .i64 d.left], [.bool d.stop], rfl, ⟨rfl, h3⟩, rfl⟩
/-- An element of a list of writes, as the walk reads it. -/
theorem wr_at {A : Option Addr} {c : Nat} {xs : List Wr} (h : SL kWr w F A c xs) {i : Nat} (hi : i < xs.length) :
    ∃ ad A' c', A = some ad ∧ w.cell? (ad.add (i * 2)) = some (.int .i64 xs[i].pos) ∧ w.cell? ⟨(ad.add (i * 2)).block, (ad.add (i * 2)).off + 1, none⟩ = some (.slice A' xs[i].data.length c') ∧ I64 xs[i].pos ∧ SL kU8 w F A' c' xs[i].data := by
  obtain ⟨ad, cs, hA, _, _, hK, hc⟩ := h.row.at_ hi
  obtain ⟨A', c', rfl, hp, hs⟩ := kWr_open hK
  refine ⟨ad, A', c', hA, ?_, ?_, hp, hs⟩
  · exact hc 0 _ rfl
  · rw [← add_field _ _ 1 (by omega)]; exact hc 1 _ rfl
end

/-! ### what the chapter says -/
def okSec (b : List UInt8) : Bool := b.length == 128
def okWr (n : Nat) (x : Wr) : Bool := decide (0 ≤ x.pos) && decide (x.pos < (n : Int)) && okSec x.data
def Dsk.valid (d : Dsk) : Bool :=
  decide (1 ≤ d.secs.length) && decide (d.secs.length ≤ 4096) && decide (d.pend.length ≤ 4096) && decide (-1 ≤ d.left) && decide (d.left ≤ 65536) && d.pend.all (okWr d.secs.length) && d.secs.all okSec
def checkD (d : Dsk) : Int := if d.valid then 0 else 470
def Dsk.runs (d : Dsk) : Bool := d.valid && !d.stop
def Dsk.has (d : Dsk) (p : Int) : Bool := decide (0 ≤ p) && decide (p < (d.secs.length : Int))
/-- What has been written last at p, or what was there. -/
def lastAt (p : Int) (l : List Wr) (b : List UInt8) : List UInt8 := l.foldl (fun b x => if x.pos = p then x.data else b) b
def readD (d : Dsk) (p : Int) : List UInt8 := if d.runs && d.has p then lastAt p d.pend (d.secs.getD p.toNat []) else []
def readE (d : Dsk) (p : Int) : Int := if d.runs && d.has p then 0 else 470
def zeroD : Dsk := ⟨[], [], 0, false⟩
def pad (b : List UInt8) : List UInt8 := b ++ List.replicate (128 - b.length) 0
def writeE (d : Dsk) (p : Int) (b : List UInt8) : Int := if d.runs && d.has p then (if 128 < b.length then 1 else if d.pend.length = 4096 then 2 else 0) else 470
def writeD (d : Dsk) (p : Int) (b : List UInt8) : Dsk := if writeE d p b = 0 then { d with pend := d.pend ++ [⟨p, pad b⟩] } else zeroD
def performD (l : List Wr) (secs : List (List UInt8)) : List (List UInt8) := l.foldl (fun s x => s.set x.pos.toNat x.data) secs
/-- A sector the first half of which is another one's. -/
def tear (new old : List UInt8) : List UInt8 := new.take 64 ++ old.drop 64
def Dsk.stops (d : Dsk) : Bool := decide (0 ≤ d.left) && decide (d.left < (d.pend.length : Int))
def tornD (d : Dsk) : List (List UInt8) :=
  let s := performD (d.pend.take d.left.toNat) d.secs
  match d.pend[d.left.toNat]? with
  | some x => s.set x.pos.toNat (tear x.data (s.getD x.pos.toNat []))
  | none => s
def syncE (d : Dsk) : Int := if d.runs then (if d.stops then 470 else 0) else 470
def syncD (d : Dsk) : Dsk :=
  if d.runs then (if d.stops then ⟨tornD d, [], 0, true⟩ else ⟨performD d.pend d.secs, [], if 0 ≤ d.left then d.left - d.pend.length else d.left, false⟩) else zeroD
def stopE (d : Dsk) (n : Int) : Int := if d.runs then (if n < 0 ∨ 65536 < n then 1 else 0) else 470
def stopD (d : Dsk) (n : Int) : Dsk := if stopE d n = 0 then { d with left := n } else zeroD
def restartD (d : Dsk) : Dsk := ⟨d.secs, [], -1, false⟩
def newE (n : Int) : Int := if n < 1 ∨ 4096 < n then 1 else 0
def newD (n : Int) : Dsk := if newE n = 0 then ⟨List.replicate n.toNat (List.replicate 128 0), [], -1, false⟩ else zeroD
end Go.Proofs.Ytmcdimcjmafaoaa.B
