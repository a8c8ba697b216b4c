/- Memories as data: the laws' own copies and comparisons in one form. Conditions: lengths below 2^20. -/
import Derived.Test.YtpcenpedbdenmaaSlot2
import Derived.Test.YtpcenpedbdenmaaPositionX
namespace Go.Proofs.Ytpcenpedbdenmaa
set_option linter.unusedSimpArgs false
set_option linter.unusedVariables false
open Go.RowKit Go.WideShapes Go.ChangeShapes Go.Deep

theorem cells_keep {W W' : World} {g : Nat} {cs : Array Value} (h : ∀ i, W.cell? ⟨g, i, none⟩ = cs[i]?) (hl : g < W.heap.size) (hb : Below W.heap.size W W') : ∀ i, W'.cell? ⟨g, i, none⟩ = cs[i]? := fun i => (hb.cell (p := ⟨g, i, none⟩) hl).trans (h i)
theorem lt_keep {W W' : World} {g : Nat} (hl : g < W.heap.size) (hb : Below W.heap.size W W') : g < W'.heap.size := Nat.lt_of_lt_of_le hl hb.size
theorem szr_parts {pss : List (List Int)} {n : Nat} {left q : Int} (h : SzR pss n left = q) (hl : 0 ≤ left) : (q = -1 ∨ 0 ≤ q) ∧ (0 ≤ q → ((n + sumLen pss n : Nat) : Int) ≤ left ∧ q = left - ((n + sumLen pss n : Nat) : Int)) := by
  subst h
  rw [SzR]
  split
  · exact ⟨Or.inr (by omega), fun _ => ⟨by assumption, rfl⟩⟩
  · exact ⟨Or.inl rfl, fun h => absurd h (by omega)⟩
theorem slot_len {ss : List SlotR} {n : Nat} (h : n + sumLen (pssOf ss) n ≤ 1048576) : ∀ j, j < n → (ss.getD j dS).ps.length ≤ 1048576 := fun j hj => by
  have h5 := sumLen_each (pssOf ss) hj
  rw [pssOf_at] at h5
  omega
theorem XMemory.later {w w' : World} {cs : List Value} {d : MemoryD} (h : XMemory w cs d) (hb : Below w.heap.size w w') : XMemory w' cs d := by
  obtain ⟨A, n, c, e, s, l⟩ := h
  exact ⟨A, n, c, e, s.later hb, l⟩
theorem XMemory.drewN {w : World} {cs : List Value} {d : MemoryD} (h : XMemory w cs d) (k : Nat) : XMemory (w.drewN k) cs d := by
  obtain ⟨A, n, c, e, s, l⟩ := h
  exact ⟨A, n, c, e, s.drewN k, l⟩
theorem XMemory.drew {w : World} {cs : List Value} {d : MemoryD} (h : XMemory w cs d) : XMemory w.drew cs d := h.drewN 1
theorem XMemory.boxed {w : World} {cs : List Value} {d : MemoryD} (h : XMemory w cs d) (o : Obj) : XMemory (w.alloc o) cs d := h.later (boxed_ w o)
theorem XMemory.len {w : World} {cs : List Value} {d : MemoryD} (h : XMemory w cs d) : cs.length = 10 := by
  obtain ⟨A, n, c, e, s, l⟩ := h
  rw [e]; rfl
def szMemory (d : MemoryD) : Nat := d.ss.length + sumLen (pssOf d.ss) d.ss.length
theorem szMemory_le (cs : List Value) (d : MemoryD) (left : Int) (w : World) (h : XMemory w cs d) (h1 : (szMemory d : Int) ≤ left) (h2 : left ≤ 1048576) : Calls Try.prog 17 #[.agg cs.toArray, .int .i64 left] w fun e w' => e = .returned (.int .i64 (left - (szMemory d : Nat))) ∧ Below w.heap.size w w' := by
  obtain ⟨A, n, c, rfl, s, l⟩ := h
  obtain rfl : d.ss.length = n := s.len
  refine (szMemory_any d.r A d.ss.length c d.ss left w s l h2 (by omega)).mono ?_
  rintro e w' ⟨rfl, hb⟩
  refine ⟨?_, hb⟩
  rw [SzR, if_pos (by unfold szMemory at h1; exact h1)]
  rfl
theorem szMemory_gt (cs : List Value) (d : MemoryD) (left : Int) (w : World) (h : XMemory w cs d) (h1 : left < (szMemory d : Int)) (h0 : 0 ≤ left) (h2 : left ≤ 1048576) : Calls Try.prog 17 #[.agg cs.toArray, .int .i64 left] w fun e w' => e = .returned (.int .i64 (-1)) ∧ Below w.heap.size w w' := by
  obtain ⟨A, n, c, rfl, s, l⟩ := h
  obtain rfl : d.ss.length = n := s.len
  refine (szMemory_any d.r A d.ss.length c d.ss left w s l h2 h0).mono ?_
  rintro e w' ⟨rfl, hb⟩
  refine ⟨?_, hb⟩
  rw [SzR, if_neg (by unfold szMemory at h1; omega)]
def ToMemoryX (d : MemoryD) (w : World) (e : Ending) (w' : World) : Prop := ∃ cs, e = .returned (.agg cs.toArray) ∧ XMemory w' cs d ∧ Below w.heap.size w w'
def ToPositionX (d : PositionD) (w : World) (e : Ending) (w' : World) : Prop := ∃ cs, e = .returned (.agg cs.toArray) ∧ XPosition w' cs d ∧ Below w.heap.size w w'
theorem toMemory_x (cs : List Value) (d : MemoryD) (w : World) (h : XMemory w cs d) (hn : szMemory d ≤ 1048576) : Calls Try.prog 19 #[.agg cs.toArray] w (ToMemoryX d w) := by
  obtain ⟨A, n, c, rfl, s, l⟩ := h
  obtain rfl : d.ss.length = n := s.len
  refine (toMemory_any d.r A d.ss.length c d.ss w s hn).mono ?_
  rintro e w' ⟨g, rfl, hg, s', hb⟩
  exact ⟨[.int .i64 d.r.p, .int .i64 d.r.s, .bool d.r.st, .bool d.r.sk, .bool d.r.re, .bool d.r.fe, .bool d.r.ag, .int .i64 d.r.ca, .int .i64 d.r.sl, .slice (some ⟨g, 0, none⟩) d.ss.length d.ss.length], rfl, ⟨_, _, _, rfl, s', l⟩, hb⟩
theorem eqMemory_x (cs cs' : List Value) (d : MemoryD) (w : World) (h : XMemory w cs d) (h' : XMemory w cs' d) : Calls Try.prog 14 #[.agg cs.toArray, .agg cs'.toArray] w fun e w' => e = .returned (.bool true) ∧ Below w.heap.size w w' := by
  obtain ⟨A, n, c, rfl, s, l⟩ := h
  obtain ⟨A', n', c', rfl, s', l'⟩ := h'
  obtain rfl : n = n' := s.len.symm.trans s'.len
  exact eqMem_same d.r A A' n c c' d.ss w s s' l
theorem toPosition_x (cs : List Value) (d : PositionD) (w : World) (h : XPosition w cs d) (hn : szPosition d ≤ 1048576) : Calls Try.prog 27 #[.agg cs.toArray] w (ToPositionX d w) :=
  (toPosition_any cs d w h hn).mono fun _ _ ⟨cs', he, _, hk, hb⟩ => ⟨cs', he, hk.now, hb⟩
theorem eqPosition_x (cs cs' : List Value) (d : PositionD) (w : World) (h : XPosition w cs d) (h' : XPosition w cs' d) : Calls Try.prog 29 #[.agg cs.toArray, .agg cs'.toArray] w fun e w' => e = .returned (.bool true) ∧ Below w.heap.size w w' := eqPosition_same cs cs' d w h h'
end Go.Proofs.Ytpcenpedbdenmaa
