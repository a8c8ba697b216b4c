/- A list of own blocks that are known, carried over calls that only make memory. No conditions. -/
import Derived.Test.YtaeeijjejkohjaaFlat
import Derived.Test.YtaeeijjejkohjaaRules
import Derived.Test.YtaeeijjejkohjaaHeld
namespace Go.Proofs.Ytaeeijjejkohjaa
set_option linter.unusedSimpArgs false
set_option linter.unusedVariables false
open Go.RowKit Go.WideShapes Go.ChangeShapes

/-- Each named block holds its cells. -/
def Cells : World → List (Nat × Array Value) → Prop
  | _, [] => True
  | W, f :: fs => (f.1 < W.heap.size ∧ ∀ i, W.cell? ⟨f.1, i, none⟩ = f.2[i]?) ∧ Cells W fs
def Keeps (w W : World) (fs : List (Nat × Array Value)) : Prop := Below w.heap.size w W ∧ Cells W fs
theorem Cells.later {W W' : World} : ∀ {fs : List (Nat × Array Value)}, Cells W fs → Below W.heap.size W W' → Cells W' fs
  | [], _, _ => trivial
  | f :: fs, ⟨⟨hl, hc⟩, hr⟩, hb => ⟨⟨Nat.lt_of_lt_of_le hl hb.size, fun i => (hb.cell (p := ⟨f.1, i, none⟩) hl).trans (hc i)⟩, Cells.later hr hb⟩
theorem Cells.drew {W : World} : ∀ {fs : List (Nat × Array Value)}, Cells W fs → Cells W.drew fs
  | [], _ => trivial
  | _ :: _, ⟨h, hr⟩ => ⟨h, Cells.drew hr⟩
theorem Keeps.nil (w : World) : Keeps w w [] := ⟨Below.refl _ _, trivial⟩
theorem Keeps.b {w W : World} {fs : List (Nat × Array Value)} (h : Keeps w W fs) : Below w.heap.size w W := h.1
theorem Keeps.later {w W W' : World} {fs : List (Nat × Array Value)} (h : Keeps w W fs) (hb : Below W.heap.size W W') : Keeps w W' fs := ⟨Below.via hb h.1 h.1.size, h.2.later hb⟩
theorem Keeps.drew {w W : World} {fs : List (Nat × Array Value)} (h : Keeps w W fs) : Keeps w W.drew fs := ⟨belowDrewN h.1 1, h.2.drew⟩
theorem Keeps.boxed {w W : World} {fs : List (Nat × Array Value)} (h : Keeps w W fs) (o : Obj) : Keeps w (W.alloc o) fs := h.later (boxed_ W o)
theorem Keeps.box {w W : World} {fs : List (Nat × Array Value)} {g : Nat} (h : Keeps w W fs) (hg : g = W.heap.size) (cs : Array Value) (t : TypeId) : Keeps w (W.alloc (.cells cs t)) ((g, cs) :: fs) :=
  ⟨(h.boxed _).1, ⟨by subst hg; exact (Blk.new W t cs).lt, fun i => by subst hg; exact (Blk.new W t cs).cell i⟩, (h.boxed _).2⟩
theorem Keeps.drop {w W : World} {f : Nat × Array Value} {fs : List (Nat × Array Value)} (h : Keeps w W (f :: fs)) : Keeps w W fs := ⟨h.1, h.2.2⟩
end Go.Proofs.Ytaeeijjejkohjaa
