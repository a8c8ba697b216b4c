/- Position as data: the laws' own copies and comparisons. Conditions: lengths below 2^20. -/
import Derived.Test.YtdkljnlkfkjdpaaRules
namespace Go.Proofs.Ytdkljnlkfkjdpaa
set_option linter.unusedSimpArgs false
set_option linter.unusedVariables false
open Go.RowKit Go.WideShapes Go.ChangeShapes Go.Deep

/-- What a Position holds. -/
structure PositionD where
  pits : List Int
  stores : List Int
  player : Int
/-- The cells read as the data. -/
def XPosition (w : World) (cs : List Value) (d : PositionD) : Prop := ∃ (A_pits : Option Addr) (n_pits c_pits : Nat) (A_stores : Option Addr) (n_stores c_stores : Nat), cs = [.slice A_pits n_pits c_pits, .slice A_stores n_stores c_stores, .int .i64 d.player] ∧ Sl w w.heap.size 1 A_pits n_pits (d.pits.map (Value.int .i64)) ∧ n_pits ≤ 9223372036854775807 ∧ Sl w w.heap.size 1 A_stores n_stores (d.stores.map (Value.int .i64)) ∧ n_stores ≤ 9223372036854775807
theorem XPosition.later {w w' : World} {cs : List Value} {d : PositionD} (h : XPosition w cs d) (hb : Below w.heap.size w w') : XPosition w' cs d := by
  obtain ⟨A_pits, n_pits, c_pits, A_stores, n_stores, c_stores, e, s_pits, l_pits, s_stores, l_stores⟩ := h
  exact ⟨_, _, _, _, _, _, e, s_pits.later hb, l_pits, s_stores.later hb, l_stores⟩
theorem XPosition.drew {w : World} {cs : List Value} {d : PositionD} (h : XPosition w cs d) : XPosition w.drew cs d := by
  obtain ⟨A_pits, n_pits, c_pits, A_stores, n_stores, c_stores, e, s_pits, l_pits, s_stores, l_stores⟩ := h
  exact ⟨_, _, _, _, _, _, e, s_pits.drew, l_pits, s_stores.drew, l_stores⟩
theorem XPosition.drewN {w : World} {cs : List Value} {d : PositionD} (h : XPosition w cs d) (k : Nat) : XPosition (w.drewN k) cs d := by
  obtain ⟨A_pits, n_pits, c_pits, A_stores, n_stores, c_stores, e, s_pits, l_pits, s_stores, l_stores⟩ := h
  exact ⟨_, _, _, _, _, _, e, s_pits.drewN k, l_pits, s_stores.drewN k, l_stores⟩
theorem XPosition.boxed {w : World} {cs : List Value} {d : PositionD} (h : XPosition w cs d) (o : Obj) : XPosition (w.alloc o) cs d := h.later (boxed_ w o)
theorem XPosition.len {w : World} {cs : List Value} {d : PositionD} (h : XPosition w cs d) : cs.length = 3 := by
  obtain ⟨A_pits, n_pits, c_pits, A_stores, n_stores, c_stores, e, s_pits, l_pits, s_stores, l_stores⟩ := h
  rw [e]; rfl
/-- How many numbers the lists hold. -/
def szPosition (d : PositionD) : Nat := d.pits.length + d.stores.length
def ToPosition (d : PositionD) (w : World) (e : Ending) (w' : World) : Prop := ∃ cs, e = .returned (.agg cs.toArray) ∧ cs.length = 3 ∧ Kept w.heap.size w' (fun w'' => XPosition w'' cs d) ∧ Below w.heap.size w w'
end Go.Proofs.Ytdkljnlkfkjdpaa
