/- Lists of acts, as cells. -/
import Derived.Test.YtmcdimcjmafaoaaDTogether
import Derived.Test.YtmcdimcjmafaoaaDiskSaneA
namespace Go.Proofs.Ytmcdimcjmafaoaa.B
set_option linter.unusedVariables false
set_option linter.unusedSimpArgs false
open Go.RowKit

def kAct : Kd ActM := kMap (fun a => (a.sync, a.pos, a.byte)) (kProd kBool (kProd kU8 kU8))
theorem kAct_sz : kAct.sz = 3 := rfl
theorem kAct_mk {w : World} {F : Foot} (a : ActM) : kAct.K w F a [.bool a.sync, .int .u8 a.pos.toNat, .int .u8 a.byte.toNat] :=
  ⟨[.bool a.sync], [.int .u8 a.pos.toNat, .int .u8 a.byte.toNat], rfl, rfl, [.int .u8 a.pos.toNat], [.int .u8 a.byte.toNat], rfl, rfl, rfl⟩
theorem kAct_open {w : World} {F : Foot} {a : ActM} {cs : List Value} (h : kAct.K w F a cs) : cs = [.bool a.sync, .int .u8 a.pos.toNat, .int .u8 a.byte.toNat] := by
  obtain ⟨_, _, rfl, rfl, _, _, rfl, rfl, rfl⟩ := h
  rfl
/-- An act, as the walk reads it. -/
theorem act_at {w : World} {F : Foot} {A : Option Addr} {c : Nat} {xs : List ActM} (h : SL kAct w F A c xs) {i : Nat} (hi : i < xs.length) :
    ∃ ad, A = some ad ∧ w.cell? (ad.add (i * 3)) = some (.bool xs[i].sync) ∧ w.cell? ⟨(ad.add (i * 3)).block, (ad.add (i * 3)).off + 1, none⟩ = some (.int .u8 xs[i].pos.toNat) ∧ w.cell? ⟨(ad.add (i * 3)).block, (ad.add (i * 3)).off + 2, none⟩ = some (.int .u8 xs[i].byte.toNat) := by
  obtain ⟨ad, cs, hA, _, _, hK, hc⟩ := h.row.at_ hi
  obtain rfl := kAct_open hK
  refine ⟨ad, hA, hc 0 _ rfl, ?_, ?_⟩
  · rw [← add_field _ _ 1 (by omega)]; exact hc 1 _ rfl
  · rw [← add_field _ _ 2 (by omega)]; exact hc 2 _ rfl

/-- The disk that came in (block of w's own box), and the two that grow out of it (boxes g5, g6). -/
structure TG (w wr : World) (g5 g6 : Nat) (d x y : Dsk) (A : Option Addr) (n c : Nat) (A' : Option Addr) (m c' : Nat) (l : Int) (s : Bool) : Prop where
  d : DV wr (Old w) w.heap.size d A n c A' m c' l s
  x : ∃ F B n b B' m b' l s, DV wr F g5 x B n b B' m b' l s ∧ ¬ F g5 ∧ ¬ F g6
  y : ∃ F B n b B' m b' l s, DV wr F g6 y B n b B' m b' l s ∧ ¬ F g5 ∧ ¬ F g6
  bel : Below w.heap.size w wr
  lt : w.heap.size < g5 ∧ w.heap.size < g6 ∧ g5 ≠ g6
section
variable {w wr wr' : World} {g5 g6 : Nat} {d x y x' : Dsk} {A A' B B' : Option Addr} {n c m c' n2 b m2 b' : Nat} {l l2 : Int} {s s2 : Bool} {G : Foot}
theorem TG.below (h : TG w wr g5 g6 d x y A n c A' m c' l s) (hb : Below wr.heap.size wr wr') : TG w wr' g5 g6 d x y A n c A' m c' l s := by
  obtain ⟨F, a1, a2, a3, a4, a5, a6, a7, a8, h1, h2, h3⟩ := h.x
  obtain ⟨F', b1, b2, b3, b4, b5, b6, b7, b8, k1, k2, k3⟩ := h.y
  exact ⟨h.d.below hb, ⟨F, a1, a2, a3, a4, a5, a6, a7, a8, h1.below hb, h2, h3⟩, ⟨F', b1, b2, b3, b4, b5, b6, b7, b8, k1.below hb, k2, k3⟩, below_then h.bel hb, h.lt⟩
theorem Blk.other4 {g v : Nat} {t : TypeId} {cs : List Value} {w : World} (h : Blk w g t cs) (hne : g ≠ v) (u0 u1 u2 u3 : Value) : Blk ((((w.setCell ⟨v, 0, none⟩ u0).setCell ⟨v, 1, none⟩ u1).setCell ⟨v, 2, none⟩ u2).setCell ⟨v, 3, none⟩ u3) g t cs := (((h.other hne).other hne).other hne).other hne
theorem DV.other {F : Foot} {g v : Nat} (h : DV w F g d A n c A' m c' l s) (hne : g ≠ v) (hF : ¬ F v) (u0 u1 u2 u3 : Value) : DV ((((w.setCell ⟨v, 0, none⟩ u0).setCell ⟨v, 1, none⟩ u1).setCell ⟨v, 2, none⟩ u2).setCell ⟨v, 3, none⟩ u3) F g d A n c A' m c' l s :=
  ⟨h.b.other4 hne _ _ _ _, kd_set4 h.k hF _ _ _ _⟩
theorem TG.setx (h : TG w wr g5 g6 d x y A n c A' m c' l s) (hk : kDsk.K wr G x' [.slice B n2 b, .slice B' m2 b', .int .i64 l2, .bool s2]) (h5 : ¬ G g5) (h6 : ¬ G g6) :
    TG w ((((wr.setCell ⟨g5, 0, none⟩ (.slice B n2 b)).setCell ⟨g5, 1, none⟩ (.slice B' m2 b')).setCell ⟨g5, 2, none⟩ (.int .i64 l2)).setCell ⟨g5, 3, none⟩ (.bool s2)) g5 g6 d x' y A n c A' m c' l s := by
  obtain ⟨F, a1, a2, a3, a4, a5, a6, a7, a8, h1, h2, h3⟩ := h.x
  obtain ⟨F', b1, b2, b3, b4, b5, b6, b7, b8, k1, k2, k3⟩ := h.y
  obtain ⟨t1, t2, t3⟩ := h.lt
  exact ⟨h.d.other (by omega) (fun e => by have e' : g5 < w.heap.size := e; omega) _ _ _ _, ⟨G, B, n2, b, B', m2, b', l2, s2, h1.set hk h5, h5, h6⟩, ⟨F', b1, b2, b3, b4, b5, b6, b7, b8, k1.other (fun e => t3 e.symm) k2 _ _ _ _, k2, k3⟩, below_set4 h.bel (by omega) _ _ _ _, h.lt⟩
theorem TG.sety (h : TG w wr g5 g6 d x y A n c A' m c' l s) (hk : kDsk.K wr G x' [.slice B n2 b, .slice B' m2 b', .int .i64 l2, .bool s2]) (h5 : ¬ G g5) (h6 : ¬ G g6) :
    TG w ((((wr.setCell ⟨g6, 0, none⟩ (.slice B n2 b)).setCell ⟨g6, 1, none⟩ (.slice B' m2 b')).setCell ⟨g6, 2, none⟩ (.int .i64 l2)).setCell ⟨g6, 3, none⟩ (.bool s2)) g5 g6 d x x' A n c A' m c' l s := by
  obtain ⟨F, a1, a2, a3, a4, a5, a6, a7, a8, h1, h2, h3⟩ := h.x
  obtain ⟨F', b1, b2, b3, b4, b5, b6, b7, b8, k1, k2, k3⟩ := h.y
  obtain ⟨t1, t2, t3⟩ := h.lt
  exact ⟨h.d.other (by omega) (fun e => by have e' : g6 < w.heap.size := e; omega) _ _ _ _, ⟨F, a1, a2, a3, a4, a5, a6, a7, a8, h1.other t3 h3 _ _ _ _, h2, h3⟩, ⟨G, B, n2, b, B', m2, b', l2, s2, k1.set hk h6, h5, h6⟩, below_set4 h.bel (by omega) _ _ _ _, h.lt⟩
theorem TG.two {w3 : World} (h : DV w3 (Old w) w.heap.size d A n c A' m c' l s) (hb : Below w.heap.size w w3) :
    TG w (((w3.alloc (.cells #[.slice A n c, .slice A' m c', .int .i64 l, .bool s] 25)).alloc (.cells #[.slice A n c, .slice A' m c', .int .i64 l, .bool s] 25)).drew) w3.heap.size (w3.heap.size + 1) d d d A n c A' m c' l s ∧
    TG w (((w3.alloc (.cells #[.slice A n c, .slice A' m c', .int .i64 l, .bool s] 25)).alloc (.cells #[.slice A n c, .slice A' m c', .int .i64 l, .bool s] 25)).drew) (w3.heap.size + 1) w3.heap.size d d d A n c A' m c' l s := by
  have h0 := h.b.lt
  have e1 := below_drew (below_box (below_box (Below.refl w3.heap.size w3) (.cells #[.slice A n c, .slice A' m c', .int .i64 l, .bool s] 25)) (.cells #[.slice A n c, .slice A' m c', .int .i64 l, .bool s] 25))
  have b1 := (Blk.new w3 25 [.slice A n c, .slice A' m c', .int .i64 l, .bool s]).below (below_drew (below_box (Below.refl _ _) (.cells #[.slice A n c, .slice A' m c', .int .i64 l, .bool s] 25)))
  have b2 := (Blk.new (w3.alloc (.cells #[.slice A n c, .slice A' m c', .int .i64 l, .bool s] 25)) 25 [.slice A n c, .slice A' m c', .int .i64 l, .bool s]).below (below_drew (Below.refl _ _))
  rw [World.size_alloc] at b2
  have k := (h.below e1)
  have n1 : ¬ Old w w3.heap.size := fun e => by have e' : w3.heap.size < w.heap.size := e; omega
  have n2 : ¬ Old w (w3.heap.size + 1) := fun e => by have e' : w3.heap.size + 1 < w.heap.size := e; omega
  exact ⟨⟨k, ⟨Old w, A, n, c, A', m, c', l, s, ⟨b1, k.k⟩, n1, n2⟩, ⟨Old w, A, n, c, A', m, c', l, s, ⟨b2, k.k⟩, n1, n2⟩, below_then hb e1, by omega⟩,
    ⟨k, ⟨Old w, A, n, c, A', m, c', l, s, ⟨b2, k.k⟩, n2, n1⟩, ⟨Old w, A, n, c, A', m, c', l, s, ⟨b1, k.k⟩, n2, n1⟩, below_then hb e1, by omega⟩⟩
/-- What a contract leads to leaves out what was left out. -/
theorem fut_out {F : Foot} {w : World} {g : Nat} (h : ¬ F g) (hl : g < w.heap.size) : ¬ Fut F w g := fun e => Or.elim e (fun e => h e.1) (fun e => absurd hl (Nat.not_lt_of_le e))
theorem TG.world (h : TG w wr g5 g6 d x y A n c A' m c' l s) : ∃ v, v = wr := ⟨wr, rfl⟩
theorem TG.lt5 (h : TG w wr g5 g6 d x y A n c A' m c' l s) : g5 < wr.heap.size ∧ g6 < wr.heap.size := by
  obtain ⟨F, a1, a2, a3, a4, a5, a6, a7, a8, h1, h2, h3⟩ := h.x
  obtain ⟨F', b1, b2, b3, b4, b5, b6, b7, b8, k1, k2, k3⟩ := h.y
  exact ⟨h1.b.lt, k1.b.lt⟩
end
theorem one_byte (w : World) (b : UInt8) {n : Nat} (hb : b.toNat = n) : Blk (w.alloc (.cells #[.int .u8 n] 5)) w.heap.size 5 (bcells [b]) := by subst hb; exact Blk.new w 5 (bcells [b])
theorem one_sl {w w' : World} {b : UInt8} {g : Nat} (h : Blk w g 5 (bcells [b])) (hb : Below w.heap.size w w') : SL kU8 w' (Old w') (some ⟨g, 0, none⟩) 1 [b] := blk_bytes rfl (h.below hb) (by simp [maxLen])
/-- A new disk in a new variable, two boxes left out. -/
theorem dv_new2 {w w' : World} {F : Foot} {d : Dsk} {A A' : Option Addr} {n c m c' : Nat} {l : Int} {s : Bool} {g5 g6 : Nat} (h : kDsk.K w' (Fut F w) d [.slice A n c, .slice A' m c', .int .i64 l, .bool s]) (h5 : ¬ F g5) (h6 : ¬ F g6) (l5 : g5 < w.heap.size) (l6 : g6 < w.heap.size) :
    ∃ G, DV (w'.alloc (.cells #[.slice A n c, .slice A' m c', .int .i64 l, .bool s] 25)) G w'.heap.size d A n c A' m c' l s ∧ ¬ G g5 ∧ ¬ G g6 :=
  ⟨_, DV.new h, fun e => fut_out h5 l5 e.1, fun e => fut_out h6 l6 e.1⟩
theorem dv_set2 {w w' : World} {F : Foot} {d : Dsk} {A A' : Option Addr} {n c m c' : Nat} {l : Int} {s : Bool} {g g5 g6 : Nat} {cs : List Value} (hb : Blk w' g 25 cs) (hl : cs.length = 4) (h : kDsk.K w' (Fut F w) d [.slice A n c, .slice A' m c', .int .i64 l, .bool s]) (hg : ¬ F g) (lg : g < w.heap.size) (h5 : ¬ F g5) (h6 : ¬ F g6) (l5 : g5 < w.heap.size) (l6 : g6 < w.heap.size) :
    ∃ G, DV ((((w'.setCell ⟨g, 0, none⟩ (.slice A n c)).setCell ⟨g, 1, none⟩ (.slice A' m c')).setCell ⟨g, 2, none⟩ (.int .i64 l)).setCell ⟨g, 3, none⟩ (.bool s)) G g d A n c A' m c' l s ∧ ¬ G g5 ∧ ¬ G g6 :=
  ⟨_, ⟨dsk_set4 hb hl _ _ _ _, kd_set4 h (fut_out hg lg) _ _ _ _⟩, fut_out h5 l5, fut_out h6 l6⟩
end Go.Proofs.Ytmcdimcjmafaoaa.B
