/- Helpers: boxes (blocks of cells that are known whole), worlds that are forgotten but for what is known of them. -/
import Derived.Test.YtbcologcendhlaaRows
import Derived.WalkKit
import Derived.ProofKit
import Derived.OpenShut
import Derived.WalkSpells
import Derived.Lib.Hide
import Derived.Deep.RegionHeld3
import Derived.Deep.RegionWith
import Derived.Deep.RegionLaw
import Derived.Deep.QuietTactic
import Derived.BigQuiet
import Derived.StillTailTactics
import Derived.Outline
import Derived.Deep.DeepCutAuto
namespace Go.Proofs.Ytbcologcendhlaa
open Go.ChangeShapes Go.WideShapes Go.ChangeAt Go.RowKit

/-- Block b is just the cells cs of element type t, none frozen. -/
def Box (w : World) (b : Nat) (t : TypeId) (cs : Array Value) : Prop := w.heap[b]? = some (.cells cs t (0, 0))

section
variable {w w' : World} {b : Nat} {t : TypeId} {cs : Array Value}
theorem Box.lt (h : Box w b t cs) : b < w.heap.size := by
  unfold Box at h
  exact (Array.getElem?_eq_some_iff.1 h).1
theorem Box.cell (h : Box w b t cs) (i : Nat) (v : Value) (hv : cs[i]? = some v) : w.cell? ⟨b, i, none⟩ = some v := by
  rw [cell_of_row w b i cs t (0, 0) h, hv]
theorem Box.frozen (h : Box w b t cs) (i : Nat) : w.frozen? ⟨b, i, none⟩ = false := by
  unfold Box at h
  simp [World.frozen?, h]
theorem Box.below {B : Nat} (h : Box w b t cs) (hb : Below B w w') (hg : b < B) : Box w' b t cs := (hb.block b hg).trans h
theorem Box.next (h : Box w b t cs) (hb : Below w.heap.size w w') : Box w' b t cs := h.below hb h.lt
theorem Box.drew (h : Box w b t cs) : Box w.drew b t cs := h
theorem Box.drewN (h : Box w b t cs) (n : Nat) : Box (w.drewN n) b t cs := h
theorem Box.alloc (h : Box w b t cs) (o : Obj) : Box (w.alloc o) b t cs := (Below.heap_alloc w o b h.lt).trans h
theorem Box.new (w : World) (t : TypeId) (cs : Array Value) : Box (w.alloc (.cells cs t)) w.heap.size t cs := heap_alloc_new w _
theorem Box.set (h : Box w b t cs) (i : Nat) (u : Value) : Box (w.setCell ⟨b, i, none⟩ u) b t (cs.setIfInBounds i u) := by
  unfold Box at h ⊢
  simp [World.setCell, Array.getElem?_modify, h]
theorem Box.far (h : Box w b t cs) {p : Addr} (hp : b ≠ p.block) (u : Value) : Box (w.setCell p u) b t cs := (Below.heap_setCell w p u b hp).trans h
theorem Box.eq_ (h : Box w b t cs) {cs' : Array Value} (he : cs = cs') : Box w b t cs' := he ▸ h
/-- A block whose cells are written one after the other. -/
theorem Box.set4 {x0 x1 x2 x3 v0 v1 v2 v3 : Value} (h : Box w b t #[x0, x1, x2, x3]) :
    Box ((((w.setCell ⟨b, 0, none⟩ v0).setCell ⟨b, 1, none⟩ v1).setCell ⟨b, 2, none⟩ v2).setCell ⟨b, 3, none⟩ v3) b t #[v0, v1, v2, v3] :=
  ((((h.set 0 v0).set 1 v1).set 2 v2).set 3 v3).eq_ (by simp)
theorem Box.far4 (h : Box w b t cs) {g : Nat} (hg : b ≠ g) (v0 v1 v2 v3 : Value) :
    Box ((((w.setCell ⟨g, 0, none⟩ v0).setCell ⟨g, 1, none⟩ v1).setCell ⟨g, 2, none⟩ v2).setCell ⟨g, 3, none⟩ v3) b t cs :=
  (((h.far (p := ⟨g, 0, none⟩) hg v0).far (p := ⟨g, 1, none⟩) hg v1).far (p := ⟨g, 2, none⟩) hg v2).far (p := ⟨g, 3, none⟩) hg v3
theorem Box.cells4 {x0 x1 x2 x3 : Value} (h : Box w b t #[x0, x1, x2, x3]) :
    w.cell? ⟨b, 0, none⟩ = some x0 ∧ w.cell? ⟨b, 1, none⟩ = some x1 ∧ w.cell? ⟨b, 2, none⟩ = some x2 ∧ w.cell? ⟨b, 3, none⟩ = some x3 :=
  ⟨h.cell 0 _ rfl, h.cell 1 _ rfl, h.cell 2 _ rfl, h.cell 3 _ rfl⟩
theorem Box.frozen4 (h : Box w b t cs) : w.frozen? ⟨b, 0, none⟩ = false ∧ w.frozen? ⟨b, 1, none⟩ = false ∧ w.frozen? ⟨b, 2, none⟩ = false ∧ w.frozen? ⟨b, 3, none⟩ = false :=
  ⟨h.frozen 0, h.frozen 1, h.frozen 2, h.frozen 3⟩
end

/-- Four stores into a block from B on. -/
theorem below_set4 {B : Nat} {a w : World} (h : Below B a w) {g : Nat} (hg : B ≤ g) (v0 v1 v2 v3 : Value) :
    Below B a ((((w.setCell ⟨g, 0, none⟩ v0).setCell ⟨g, 1, none⟩ v1).setCell ⟨g, 2, none⟩ v2).setCell ⟨g, 3, none⟩ v3) :=
  (((h.setCell (p := ⟨g, 0, none⟩) hg v0).setCell (p := ⟨g, 1, none⟩) hg v1).setCell (p := ⟨g, 2, none⟩) hg v2).setCell (p := ⟨g, 3, none⟩) hg v3

/-- What was below a later world's size. -/
theorem below_next {B : Nat} {w w1 w2 : World} (h : Below B w w1) (hB : B ≤ w1.heap.size) (h2 : Below w1.heap.size w1 w2) : Below B w w2 := h.trans (h2.mono hB)

theorem below_step {w w1 w2 : World} (h : Below w.heap.size w w1) (h2 : Below w1.heap.size w1 w2) : Below w.heap.size w w2 := h.trans (h2.mono h.size)
theorem below_box {w w1 : World} (h : Below w.heap.size w w1) (o : Obj) : Below w.heap.size w (w1.alloc o) := h.alloc h.size o

/-- The walk goes on in a world of which only F is known. -/
theorem wp_forget {P : Program} {c : Code} {Q : Exit → Act → World → Prop} {a : Act} {w : World} (F : World → Prop) (hF : F w) (h : ∀ w2, F w2 → c.wp P Q a w2) : c.wp P Q a w := h w hF

/-- The worlds that are as w was below w's own size: an index for the class of a quiet region. -/
def Idx (w : World) : Type := { w' : World // Below w.heap.size w w' }
instance (w : World) : Nonempty (Idx w) := ⟨⟨w, Below.refl _ _⟩⟩
def Idx.at {w : World} (n : Idx w) : World := n.val
theorem Idx.below {w : World} (n : Idx w) : Below w.heap.size w n.at := n.property

/-- A region that draws its order, whose operations read what w has and whose callees leave what w has: walked once. -/
theorem wp_region_calm {P : Program} {id : Nat} {Q : Exit → Act → World → Prop} {a : Act} {w : World} {l : List Oper} (hm : P.follows .mixedOrders = true) (hB : Region.lexB .any l.toArray = true)
    (h : wpQuiet P l.toArray (fun w' => ∃ n : Idx w, w' = n.at) (fun a' => ∀ w', (∃ n : Idx w, w' = n.at) → Q .normal a' w') l a) : (Code.region id l.toArray true).wp P Q a w :=
  wp_region_quiet (C := fun w' => ∃ n : Idx w, w' = n.at) hm hB ⟨⟨_, (Below.refl _ w).drew⟩, rfl⟩ (by simpa using h)

/-- A callee's contract, met in a world of the class. -/
theorem calm_of {P : Program} {f : FuncId} {args : Array Value} {w : World} {n : Idx w} {v : Value}
    (h : Calls P f args n.at fun e w' => e = .returned v ∧ Below n.at.heap.size n.at w') : Calls P f args n.at fun e w'' => e = .returned v ∧ ∃ m : Idx w, w'' = m.at :=
  h.mono fun _ w' ⟨he, hb⟩ => ⟨he, ⟨w', n.below.trans (hb.mono n.below.size)⟩, rfl⟩
theorem calm_of_same {P : Program} {f : FuncId} {args : Array Value} {w : World} {n : Idx w} {v : Value}
    (h : Calls P f args n.at fun e w' => e = .returned v ∧ n.at = w') : Calls P f args n.at fun e w'' => e = .returned v ∧ ∃ m : Idx w, w'' = m.at :=
  h.mono fun _ _ ⟨he, hb⟩ => ⟨he, n, hb.symm⟩

section
variable {w : World} {b : Nat} {t : TypeId} {cs : Array Value}
theorem Box.idx (h : Box w b t cs) (n : Idx w) : Box n.at b t cs := h.next n.below
theorem Box.icells4 {x0 x1 x2 x3 : Value} (h : Box w b t #[x0, x1, x2, x3]) :
    (∀ n : Idx w, n.at.cell? ⟨b, 0, none⟩ = some x0) ∧ (∀ n : Idx w, n.at.cell? ⟨b, 1, none⟩ = some x1) ∧ (∀ n : Idx w, n.at.cell? ⟨b, 2, none⟩ = some x2) ∧ (∀ n : Idx w, n.at.cell? ⟨b, 3, none⟩ = some x3) :=
  ⟨fun n => (h.idx n).cell 0 _ rfl, fun n => (h.idx n).cell 1 _ rfl, fun n => (h.idx n).cell 2 _ rfl, fun n => (h.idx n).cell 3 _ rfl⟩
end
end Go.Proofs.Ytbcologcendhlaa
