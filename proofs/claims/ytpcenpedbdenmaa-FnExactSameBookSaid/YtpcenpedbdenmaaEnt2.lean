/- Entries copied and compared; books. Conditions: lengths below 2^20. -/
import Derived.Test.YtpcenpedbdenmaaEnt1
import Derived.Test.YtpcenpedbdenmaaChoiceS
import Derived.Test.YtpcenpedbdenmaaLists
import Derived.Test.YtpcenpedbdenmaaMem1
namespace Go.Proofs.Ytpcenpedbdenmaa
set_option linter.unusedSimpArgs false
set_option linter.unusedVariables false
open Go.RowKit Go.WideShapes Go.ChangeShapes Go.Deep

theorem Blk.othE {w : World} {g : Nat} {t : TypeId} {cs : Array Value} (h : Blk w g t cs) (p : Addr) (u : Value) (hne : g ≠ p.block) : Blk (w.setCell p u) g t cs := (Below.heap_setCell w p u g hne).trans h
def iC (l : List Int) : List Value := l.map (Value.int .i64)
/-- A block that is a list of elements of three numbers. -/
theorem blk_sl3 {w : World} {g : Nat} {t : TypeId} {zs : List Int} {m n : Nat} (h : Blk w g t (zs.map (Value.int .i64)).toArray) (hl : zs.length = n * m) : Sl w w.heap.size m (some ⟨g, 0, none⟩) n (zs.map (Value.int .i64)) :=
  Blk.sl (rest := []) (by rw [List.append_nil]; exact h) hl
set_option maxHeartbeats 1000000 in
theorem toEnt_any (A A2 : Option Addr) (m c m2 c2 : Nat) (ps cs : List Int) (w : World) (hs : Sl w w.heap.size 1 A m (ps.map (Value.int .i64))) (hs2 : Sl w w.heap.size 3 A2 m2 (cs.map (Value.int .i64))) (hm : m ≤ 1048576) (hm2 : m2 ≤ 1048576) :
    Calls Try.prog 88 #[.agg #[.slice A m c, .slice A2 m2 c2]] w fun e w' => ∃ g g2, e = .returned (.agg #[.slice (some ⟨g, 0, none⟩) m m, .slice (some ⟨g2, 0, none⟩) m2 m2]) ∧ w.heap.size ≤ g ∧ w.heap.size ≤ g2 ∧ Blk w' g 2 (ps.map (Value.int .i64)).toArray ∧ Blk w' g2 123 (cs.map (Value.int .i64)).toArray ∧ Below w.heap.size w w' := by
  have HS2 := Lib.hid hs2
  go_enter Try.func88, Try.ntmps88
  go_wp2_with fail
  refine (toInt64S_any A m c ps _ (hs.later (by (repeat' (first | (with_reducible exact Below.refl _ _) | (with_reducible assumption) | (with_reducible refine Below.alloc ?_ ?_ _) | (with_reducible refine Below.drew ?_) | (with_reducible refine belowDrewN ?_ _) | (with_reducible refine Below.setCell ?_ ?_ _) | (with_reducible refine Below.via (by with_reducible assumption) ?_ ?_) | (with_reducible refine Below.viaD (by with_reducible assumption) ?_ ?_) | (with_reducible exact Below.size (by with_reducible assumption)) | go_size | (with_reducible refine Nat.le_trans ?_ (Below.size (by with_reducible assumption))) | (with_reducible refine Nat.le_trans ?_ (sizeAlloc _ _)) | (with_reducible refine Nat.le_trans ?_ (sizeSet _ _ _)) | (with_reducible refine Nat.le_trans ?_ (sizeDrew _)))))) hm).mono ?_
  rintro e w1 ⟨rfl, rfl⟩
  go_wp2_with fail
  refine (toChoiceS_any A2 m2 c2 cs _ (HS2.out.later (by (repeat' (first | (with_reducible exact Below.refl _ _) | (with_reducible assumption) | (with_reducible refine Below.alloc ?_ ?_ _) | (with_reducible refine Below.drew ?_) | (with_reducible refine belowDrewN ?_ _) | (with_reducible refine Below.setCell ?_ ?_ _) | (with_reducible refine Below.via (by with_reducible assumption) ?_ ?_) | (with_reducible refine Below.viaD (by with_reducible assumption) ?_ ?_) | (with_reducible exact Below.size (by with_reducible assumption)) | go_size | (with_reducible refine Nat.le_trans ?_ (Below.size (by with_reducible assumption))) | (with_reducible refine Nat.le_trans ?_ (sizeAlloc _ _)) | (with_reducible refine Nat.le_trans ?_ (sizeSet _ _ _)) | (with_reducible refine Nat.le_trans ?_ (sizeDrew _)))))) hm2).mono ?_
  rintro e w2 ⟨rfl, hk2, hb2⟩
  have ho : w.heap.size + 1 + 1 + 1 + 1 = w.heap.size + 4 := rfl
  have k1 : Blk w2 (w.heap.size + 1) 105 #[.slice none 0 0, .slice none 0 0] := ((((Blk.new' (w := w.alloc (.cells #[.slice A m c, .slice A2 m2 c2] 121)) (by simp)).later (boxed_ _ _)).later (boxed_ _ _))).later hb2
  have k2 : Blk w2 (w.heap.size + 1 + 1) 105 #[.slice (some ⟨w.heap.size + 1 + 1 + 1, 0, none⟩) m m, .slice none 0 0] := ((Blk.new' (by simp)).later (boxed_ _ _)).later hb2
  have k3 : Blk w2 (w.heap.size + 1 + 1 + 1) 2 (ps.map (Value.int .i64)).toArray := (Blk.new' (by simp)).later hb2
  have bw2 : Below w.heap.size w w2 := by (repeat' (first | (with_reducible exact Below.refl _ _) | (with_reducible assumption) | (with_reducible refine Below.alloc ?_ ?_ _) | (with_reducible refine Below.drew ?_) | (with_reducible refine belowDrewN ?_ _) | (with_reducible refine Below.setCell ?_ ?_ _) | (with_reducible refine Below.via (by with_reducible assumption) ?_ ?_) | (with_reducible refine Below.viaD (by with_reducible assumption) ?_ ?_) | (with_reducible exact Below.size (by with_reducible assumption)) | go_size | (with_reducible refine Nat.le_trans ?_ (Below.size (by with_reducible assumption))) | (with_reducible refine Nat.le_trans ?_ (sizeAlloc _ _)) | (with_reducible refine Nat.le_trans ?_ (sizeSet _ _ _)) | (with_reducible refine Nat.le_trans ?_ (sizeDrew _))))
  simp only [World.size_alloc] at hk2
  have e0 := k1.cell 0
  have e1 := k1.cell 1
  have f0 := k1.free 0
  have f1 := k1.free 1
  have x0 := k2.cell 0
  have x1 := k2.cell 1
  have y0 := k2.free 0
  have y1 := k2.free 1
  have K1 := Lib.hid k1
  have K2 := Lib.hid k2
  have K3 := Lib.hid k3
  have K4 := Lib.hid hk2
  clear k1 k2 k3 hk2 hb2 hs
  go_wp2_with fail
  have R1 : Blk (((w2.setCell ⟨w.heap.size + 1 + 1, 1, none⟩ (.slice (some ⟨w.heap.size + 1 + 1 + 1 + 1, 0, none⟩) m2 m2)).setCell ⟨w.heap.size + 1, 0, none⟩ (.slice (some ⟨w.heap.size + 1 + 1 + 1, 0, none⟩) m m)).setCell ⟨w.heap.size + 1, 1, none⟩ (.slice (some ⟨w.heap.size + 1 + 1 + 1 + 1, 0, none⟩) m2 m2)) (w.heap.size + 1) 105 #[.slice (some ⟨w.heap.size + 1 + 1 + 1, 0, none⟩) m m, .slice (some ⟨w.heap.size + 1 + 1 + 1 + 1, 0, none⟩) m2 m2] := ((K1.out.othE _ _ (by show _ ≠ w.heap.size + 1 + 1; omega)).set 0 _).set 1 _
  have R3 : Blk (((w2.setCell ⟨w.heap.size + 1 + 1, 1, none⟩ (.slice (some ⟨w.heap.size + 1 + 1 + 1 + 1, 0, none⟩) m2 m2)).setCell ⟨w.heap.size + 1, 0, none⟩ (.slice (some ⟨w.heap.size + 1 + 1 + 1, 0, none⟩) m m)).setCell ⟨w.heap.size + 1, 1, none⟩ (.slice (some ⟨w.heap.size + 1 + 1 + 1 + 1, 0, none⟩) m2 m2)) (w.heap.size + 1 + 1 + 1) 2 (ps.map (Value.int .i64)).toArray := ((K3.out.othE _ _ (by show _ ≠ w.heap.size + 1 + 1; omega)).othE _ _ (by show _ ≠ w.heap.size + 1; omega)).othE _ _ (by show _ ≠ w.heap.size + 1; omega)
  have R4 : Blk (((w2.setCell ⟨w.heap.size + 1 + 1, 1, none⟩ (.slice (some ⟨w.heap.size + 1 + 1 + 1 + 1, 0, none⟩) m2 m2)).setCell ⟨w.heap.size + 1, 0, none⟩ (.slice (some ⟨w.heap.size + 1 + 1 + 1, 0, none⟩) m m)).setCell ⟨w.heap.size + 1, 1, none⟩ (.slice (some ⟨w.heap.size + 1 + 1 + 1 + 1, 0, none⟩) m2 m2)) (w.heap.size + 1 + 1 + 1 + 1) 123 (cs.map (Value.int .i64)).toArray := ((K4.out.othE _ _ (by show _ ≠ w.heap.size + 1 + 1; omega)).othE _ _ (by show _ ≠ w.heap.size + 1; omega)).othE _ _ (by show _ ≠ w.heap.size + 1; omega)
  have B9 : Below w.heap.size w (((w2.setCell ⟨w.heap.size + 1 + 1, 1, none⟩ (.slice (some ⟨w.heap.size + 1 + 1 + 1 + 1, 0, none⟩) m2 m2)).setCell ⟨w.heap.size + 1, 0, none⟩ (.slice (some ⟨w.heap.size + 1 + 1 + 1, 0, none⟩) m m)).setCell ⟨w.heap.size + 1, 1, none⟩ (.slice (some ⟨w.heap.size + 1 + 1 + 1 + 1, 0, none⟩) m2 m2)) := by (repeat' (first | (with_reducible exact Below.refl _ _) | (with_reducible assumption) | (with_reducible refine Below.alloc ?_ ?_ _) | (with_reducible refine Below.drew ?_) | (with_reducible refine belowDrewN ?_ _) | (with_reducible refine Below.setCell ?_ ?_ _) | (with_reducible refine Below.via (by with_reducible assumption) ?_ ?_) | (with_reducible refine Below.viaD (by with_reducible assumption) ?_ ?_) | (with_reducible exact Below.size (by with_reducible assumption)) | go_size | (with_reducible refine Nat.le_trans ?_ (Below.size (by with_reducible assumption))) | (with_reducible refine Nat.le_trans ?_ (sizeAlloc _ _)) | (with_reducible refine Nat.le_trans ?_ (sizeSet _ _ _)) | (with_reducible refine Nat.le_trans ?_ (sizeDrew _))))
  clear e0 e1 f0 f1 x0 x1 y0 y1
  generalize (((w2.setCell ⟨w.heap.size + 1 + 1, 1, none⟩ (.slice (some ⟨w.heap.size + 1 + 1 + 1 + 1, 0, none⟩) m2 m2)).setCell ⟨w.heap.size + 1, 0, none⟩ (.slice (some ⟨w.heap.size + 1 + 1 + 1, 0, none⟩) m m)).setCell ⟨w.heap.size + 1, 1, none⟩ (.slice (some ⟨w.heap.size + 1 + 1 + 1 + 1, 0, none⟩) m2 m2)) = W9 at R1 R3 R4 B9 ⊢
  have q0 := R1.cell 0
  have q1 := R1.cell 1
  (try simp only [Exit.inBlock, Exit.then])
  refine bodyPost_ret (by simp [results, Try.results88, go_sem, q0, q1]; try rfl) rfl ?_
  exact ⟨_, _, rfl, by omega, by omega, R3, R4, B9⟩
end Go.Proofs.Ytpcenpedbdenmaa
