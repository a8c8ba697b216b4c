/- Valid slots, by the program. Conditions: lengths below 2^20. -/
import Derived.Test.YtpcenpedbdenmaaSlot4
import Derived.Test.YtpcenpedbdenmaaHeld
import Derived.Deep.RegionHeld3
namespace Go.Proofs.Ytpcenpedbdenmaa
set_option linter.unusedSimpArgs false
set_option linter.unusedVariables false
open Go.RowKit Go.WideShapes Go.ChangeShapes Go.Deep

theorem vs_keep {w W : World} {r : Ru} {A : Option Addr} {n c : Nat} {x0 x1 x2 x3 x4 x5 : Value} {W' : World} (h : (W.cell? ⟨w.heap.size, 0, none⟩ = some (.int .i64 r.p) ∧ W.cell? ⟨w.heap.size, 1, none⟩ = some (.int .i64 r.s) ∧ W.cell? ⟨w.heap.size, 2, none⟩ = some (.bool r.st) ∧ W.cell? ⟨w.heap.size, 3, none⟩ = some (.bool r.sk) ∧ W.cell? ⟨w.heap.size, 4, none⟩ = some (.bool r.re) ∧ W.cell? ⟨w.heap.size, 5, none⟩ = some (.bool r.fe) ∧ W.cell? ⟨w.heap.size, 6, none⟩ = some (.bool r.ag) ∧ W.cell? ⟨w.heap.size, 7, none⟩ = some (.int .i64 r.ca) ∧ W.cell? ⟨w.heap.size, 8, none⟩ = some (.int .i64 r.sl) ∧ W.cell? ⟨w.heap.size, 9, none⟩ = some (.slice A n c)) ∧ (W.cell? ⟨w.heap.size + 1, 0, none⟩ = some (x0) ∧ W.cell? ⟨w.heap.size + 1, 1, none⟩ = some (x1) ∧ W.cell? ⟨w.heap.size + 1, 2, none⟩ = some (x2) ∧ W.cell? ⟨w.heap.size + 1, 3, none⟩ = some (x3) ∧ W.cell? ⟨w.heap.size + 1, 4, none⟩ = some (x4) ∧ W.cell? ⟨w.heap.size + 1, 5, none⟩ = some (x5)) ∧ Below w.heap.size w W) (hb : Below W.heap.size W W') : (W'.cell? ⟨w.heap.size, 0, none⟩ = some (.int .i64 r.p) ∧ W'.cell? ⟨w.heap.size, 1, none⟩ = some (.int .i64 r.s) ∧ W'.cell? ⟨w.heap.size, 2, none⟩ = some (.bool r.st) ∧ W'.cell? ⟨w.heap.size, 3, none⟩ = some (.bool r.sk) ∧ W'.cell? ⟨w.heap.size, 4, none⟩ = some (.bool r.re) ∧ W'.cell? ⟨w.heap.size, 5, none⟩ = some (.bool r.fe) ∧ W'.cell? ⟨w.heap.size, 6, none⟩ = some (.bool r.ag) ∧ W'.cell? ⟨w.heap.size, 7, none⟩ = some (.int .i64 r.ca) ∧ W'.cell? ⟨w.heap.size, 8, none⟩ = some (.int .i64 r.sl) ∧ W'.cell? ⟨w.heap.size, 9, none⟩ = some (.slice A n c)) ∧ (W'.cell? ⟨w.heap.size + 1, 0, none⟩ = some (x0) ∧ W'.cell? ⟨w.heap.size + 1, 1, none⟩ = some (x1) ∧ W'.cell? ⟨w.heap.size + 1, 2, none⟩ = some (x2) ∧ W'.cell? ⟨w.heap.size + 1, 3, none⟩ = some (x3) ∧ W'.cell? ⟨w.heap.size + 1, 4, none⟩ = some (x4) ∧ W'.cell? ⟨w.heap.size + 1, 5, none⟩ = some (x5)) ∧ Below w.heap.size w W' := by
  obtain ⟨⟨a0, a1, a2, a3, a4, a5, a6, a7, a8, a9⟩, ⟨b0, b1, b2, b3, b4, b5⟩, hB⟩ := h
  have l0 := cell_lt a0
  have l1 := cell_lt b0
  exact ⟨⟨(hb.cell (p := ⟨_, _, none⟩) l0).trans a0, (hb.cell (p := ⟨_, _, none⟩) l0).trans a1, (hb.cell (p := ⟨_, _, none⟩) l0).trans a2, (hb.cell (p := ⟨_, _, none⟩) l0).trans a3, (hb.cell (p := ⟨_, _, none⟩) l0).trans a4, (hb.cell (p := ⟨_, _, none⟩) l0).trans a5, (hb.cell (p := ⟨_, _, none⟩) l0).trans a6, (hb.cell (p := ⟨_, _, none⟩) l0).trans a7, (hb.cell (p := ⟨_, _, none⟩) l0).trans a8, (hb.cell (p := ⟨_, _, none⟩) l0).trans a9⟩, ⟨(hb.cell (p := ⟨_, _, none⟩) l1).trans b0, (hb.cell (p := ⟨_, _, none⟩) l1).trans b1, (hb.cell (p := ⟨_, _, none⟩) l1).trans b2, (hb.cell (p := ⟨_, _, none⟩) l1).trans b3, (hb.cell (p := ⟨_, _, none⟩) l1).trans b4, (hb.cell (p := ⟨_, _, none⟩) l1).trans b5⟩, Below.via hb hB hB.size⟩
theorem vs_drew {w W : World} {r : Ru} {A : Option Addr} {n c : Nat} {x0 x1 x2 x3 x4 x5 : Value} (h : (W.cell? ⟨w.heap.size, 0, none⟩ = some (.int .i64 r.p) ∧ W.cell? ⟨w.heap.size, 1, none⟩ = some (.int .i64 r.s) ∧ W.cell? ⟨w.heap.size, 2, none⟩ = some (.bool r.st) ∧ W.cell? ⟨w.heap.size, 3, none⟩ = some (.bool r.sk) ∧ W.cell? ⟨w.heap.size, 4, none⟩ = some (.bool r.re) ∧ W.cell? ⟨w.heap.size, 5, none⟩ = some (.bool r.fe) ∧ W.cell? ⟨w.heap.size, 6, none⟩ = some (.bool r.ag) ∧ W.cell? ⟨w.heap.size, 7, none⟩ = some (.int .i64 r.ca) ∧ W.cell? ⟨w.heap.size, 8, none⟩ = some (.int .i64 r.sl) ∧ W.cell? ⟨w.heap.size, 9, none⟩ = some (.slice A n c)) ∧ (W.cell? ⟨w.heap.size + 1, 0, none⟩ = some (x0) ∧ W.cell? ⟨w.heap.size + 1, 1, none⟩ = some (x1) ∧ W.cell? ⟨w.heap.size + 1, 2, none⟩ = some (x2) ∧ W.cell? ⟨w.heap.size + 1, 3, none⟩ = some (x3) ∧ W.cell? ⟨w.heap.size + 1, 4, none⟩ = some (x4) ∧ W.cell? ⟨w.heap.size + 1, 5, none⟩ = some (x5)) ∧ Below w.heap.size w W) : (W.drew.cell? ⟨w.heap.size, 0, none⟩ = some (.int .i64 r.p) ∧ W.drew.cell? ⟨w.heap.size, 1, none⟩ = some (.int .i64 r.s) ∧ W.drew.cell? ⟨w.heap.size, 2, none⟩ = some (.bool r.st) ∧ W.drew.cell? ⟨w.heap.size, 3, none⟩ = some (.bool r.sk) ∧ W.drew.cell? ⟨w.heap.size, 4, none⟩ = some (.bool r.re) ∧ W.drew.cell? ⟨w.heap.size, 5, none⟩ = some (.bool r.fe) ∧ W.drew.cell? ⟨w.heap.size, 6, none⟩ = some (.bool r.ag) ∧ W.drew.cell? ⟨w.heap.size, 7, none⟩ = some (.int .i64 r.ca) ∧ W.drew.cell? ⟨w.heap.size, 8, none⟩ = some (.int .i64 r.sl) ∧ W.drew.cell? ⟨w.heap.size, 9, none⟩ = some (.slice A n c)) ∧ (W.drew.cell? ⟨w.heap.size + 1, 0, none⟩ = some (x0) ∧ W.drew.cell? ⟨w.heap.size + 1, 1, none⟩ = some (x1) ∧ W.drew.cell? ⟨w.heap.size + 1, 2, none⟩ = some (x2) ∧ W.drew.cell? ⟨w.heap.size + 1, 3, none⟩ = some (x3) ∧ W.drew.cell? ⟨w.heap.size + 1, 4, none⟩ = some (x4) ∧ W.drew.cell? ⟨w.heap.size + 1, 5, none⟩ = some (x5)) ∧ Below w.heap.size w W.drew := by
  obtain ⟨⟨a0, a1, a2, a3, a4, a5, a6, a7, a8, a9⟩, ⟨b0, b1, b2, b3, b4, b5⟩, hB⟩ := h
  exact ⟨⟨a0, a1, a2, a3, a4, a5, a6, a7, a8, a9⟩, ⟨b0, b1, b2, b3, b4, b5⟩, belowDrewN hB 1⟩
theorem vs_start (w : World) (r : Ru) (A : Option Addr) (n c : Nat) (x0 x1 x2 x3 x4 x5 : Value) (t t2 : TypeId) : (((w.alloc (.cells #[.int .i64 r.p, .int .i64 r.s, .bool r.st, .bool r.sk, .bool r.re, .bool r.fe, .bool r.ag, .int .i64 r.ca, .int .i64 r.sl, .slice A n c] t)).alloc (.cells #[x0, x1, x2, x3, x4, x5] t2)).cell? ⟨w.heap.size, 0, none⟩ = some (.int .i64 r.p) ∧ ((w.alloc (.cells #[.int .i64 r.p, .int .i64 r.s, .bool r.st, .bool r.sk, .bool r.re, .bool r.fe, .bool r.ag, .int .i64 r.ca, .int .i64 r.sl, .slice A n c] t)).alloc (.cells #[x0, x1, x2, x3, x4, x5] t2)).cell? ⟨w.heap.size, 1, none⟩ = some (.int .i64 r.s) ∧ ((w.alloc (.cells #[.int .i64 r.p, .int .i64 r.s, .bool r.st, .bool r.sk, .bool r.re, .bool r.fe, .bool r.ag, .int .i64 r.ca, .int .i64 r.sl, .slice A n c] t)).alloc (.cells #[x0, x1, x2, x3, x4, x5] t2)).cell? ⟨w.heap.size, 2, none⟩ = some (.bool r.st) ∧ ((w.alloc (.cells #[.int .i64 r.p, .int .i64 r.s, .bool r.st, .bool r.sk, .bool r.re, .bool r.fe, .bool r.ag, .int .i64 r.ca, .int .i64 r.sl, .slice A n c] t)).alloc (.cells #[x0, x1, x2, x3, x4, x5] t2)).cell? ⟨w.heap.size, 3, none⟩ = some (.bool r.sk) ∧ ((w.alloc (.cells #[.int .i64 r.p, .int .i64 r.s, .bool r.st, .bool r.sk, .bool r.re, .bool r.fe, .bool r.ag, .int .i64 r.ca, .int .i64 r.sl, .slice A n c] t)).alloc (.cells #[x0, x1, x2, x3, x4, x5] t2)).cell? ⟨w.heap.size, 4, none⟩ = some (.bool r.re) ∧ ((w.alloc (.cells #[.int .i64 r.p, .int .i64 r.s, .bool r.st, .bool r.sk, .bool r.re, .bool r.fe, .bool r.ag, .int .i64 r.ca, .int .i64 r.sl, .slice A n c] t)).alloc (.cells #[x0, x1, x2, x3, x4, x5] t2)).cell? ⟨w.heap.size, 5, none⟩ = some (.bool r.fe) ∧ ((w.alloc (.cells #[.int .i64 r.p, .int .i64 r.s, .bool r.st, .bool r.sk, .bool r.re, .bool r.fe, .bool r.ag, .int .i64 r.ca, .int .i64 r.sl, .slice A n c] t)).alloc (.cells #[x0, x1, x2, x3, x4, x5] t2)).cell? ⟨w.heap.size, 6, none⟩ = some (.bool r.ag) ∧ ((w.alloc (.cells #[.int .i64 r.p, .int .i64 r.s, .bool r.st, .bool r.sk, .bool r.re, .bool r.fe, .bool r.ag, .int .i64 r.ca, .int .i64 r.sl, .slice A n c] t)).alloc (.cells #[x0, x1, x2, x3, x4, x5] t2)).cell? ⟨w.heap.size, 7, none⟩ = some (.int .i64 r.ca) ∧ ((w.alloc (.cells #[.int .i64 r.p, .int .i64 r.s, .bool r.st, .bool r.sk, .bool r.re, .bool r.fe, .bool r.ag, .int .i64 r.ca, .int .i64 r.sl, .slice A n c] t)).alloc (.cells #[x0, x1, x2, x3, x4, x5] t2)).cell? ⟨w.heap.size, 8, none⟩ = some (.int .i64 r.sl) ∧ ((w.alloc (.cells #[.int .i64 r.p, .int .i64 r.s, .bool r.st, .bool r.sk, .bool r.re, .bool r.fe, .bool r.ag, .int .i64 r.ca, .int .i64 r.sl, .slice A n c] t)).alloc (.cells #[x0, x1, x2, x3, x4, x5] t2)).cell? ⟨w.heap.size, 9, none⟩ = some (.slice A n c)) ∧ (((w.alloc (.cells #[.int .i64 r.p, .int .i64 r.s, .bool r.st, .bool r.sk, .bool r.re, .bool r.fe, .bool r.ag, .int .i64 r.ca, .int .i64 r.sl, .slice A n c] t)).alloc (.cells #[x0, x1, x2, x3, x4, x5] t2)).cell? ⟨w.heap.size + 1, 0, none⟩ = some (x0) ∧ ((w.alloc (.cells #[.int .i64 r.p, .int .i64 r.s, .bool r.st, .bool r.sk, .bool r.re, .bool r.fe, .bool r.ag, .int .i64 r.ca, .int .i64 r.sl, .slice A n c] t)).alloc (.cells #[x0, x1, x2, x3, x4, x5] t2)).cell? ⟨w.heap.size + 1, 1, none⟩ = some (x1) ∧ ((w.alloc (.cells #[.int .i64 r.p, .int .i64 r.s, .bool r.st, .bool r.sk, .bool r.re, .bool r.fe, .bool r.ag, .int .i64 r.ca, .int .i64 r.sl, .slice A n c] t)).alloc (.cells #[x0, x1, x2, x3, x4, x5] t2)).cell? ⟨w.heap.size + 1, 2, none⟩ = some (x2) ∧ ((w.alloc (.cells #[.int .i64 r.p, .int .i64 r.s, .bool r.st, .bool r.sk, .bool r.re, .bool r.fe, .bool r.ag, .int .i64 r.ca, .int .i64 r.sl, .slice A n c] t)).alloc (.cells #[x0, x1, x2, x3, x4, x5] t2)).cell? ⟨w.heap.size + 1, 3, none⟩ = some (x3) ∧ ((w.alloc (.cells #[.int .i64 r.p, .int .i64 r.s, .bool r.st, .bool r.sk, .bool r.re, .bool r.fe, .bool r.ag, .int .i64 r.ca, .int .i64 r.sl, .slice A n c] t)).alloc (.cells #[x0, x1, x2, x3, x4, x5] t2)).cell? ⟨w.heap.size + 1, 4, none⟩ = some (x4) ∧ ((w.alloc (.cells #[.int .i64 r.p, .int .i64 r.s, .bool r.st, .bool r.sk, .bool r.re, .bool r.fe, .bool r.ag, .int .i64 r.ca, .int .i64 r.sl, .slice A n c] t)).alloc (.cells #[x0, x1, x2, x3, x4, x5] t2)).cell? ⟨w.heap.size + 1, 5, none⟩ = some (x5)) ∧ Below w.heap.size w ((w.alloc (.cells #[.int .i64 r.p, .int .i64 r.s, .bool r.st, .bool r.sk, .bool r.re, .bool r.fe, .bool r.ag, .int .i64 r.ca, .int .i64 r.sl, .slice A n c] t)).alloc (.cells #[x0, x1, x2, x3, x4, x5] t2)) := by
  have K1 := (Blk.new w t #[.int .i64 r.p, .int .i64 r.s, .bool r.st, .bool r.sk, .bool r.re, .bool r.fe, .bool r.ag, .int .i64 r.ca, .int .i64 r.sl, .slice A n c]).later (boxed_ _ (.cells #[x0, x1, x2, x3, x4, x5] t2))
  have K2 := Blk.new' (w := w.alloc (.cells #[.int .i64 r.p, .int .i64 r.s, .bool r.st, .bool r.sk, .bool r.re, .bool r.fe, .bool r.ag, .int .i64 r.ca, .int .i64 r.sl, .slice A n c] t)) (g := w.heap.size + 1) (t := t2) (cs := #[x0, x1, x2, x3, x4, x5]) (by simp)
  exact ⟨⟨K1.cell 0, K1.cell 1, K1.cell 2, K1.cell 3, K1.cell 4, K1.cell 5, K1.cell 6, K1.cell 7, K1.cell 8, K1.cell 9⟩, ⟨K2.cell 0, K2.cell 1, K2.cell 2, K2.cell 3, K2.cell 4, K2.cell 5⟩, by (repeat' (first | (with_reducible exact Below.refl _ _) | (with_reducible assumption) | (with_reducible refine Below.alloc ?_ ?_ _) | (with_reducible refine Below.drew ?_) | (with_reducible refine belowDrewN ?_ _) | (with_reducible refine Below.setCell ?_ ?_ _) | (with_reducible refine Below.via (by with_reducible assumption) ?_ ?_) | (with_reducible refine Below.viaD (by with_reducible assumption) ?_ ?_) | (with_reducible exact Below.size (by with_reducible assumption)) | go_size | (with_reducible refine Nat.le_trans ?_ (Below.size (by with_reducible assumption))) | (with_reducible refine Nat.le_trans ?_ (sizeAlloc _ _)) | (with_reducible refine Nat.le_trans ?_ (sizeSet _ _ _)) | (with_reducible refine Nat.le_trans ?_ (sizeDrew _))))⟩
set_option maxRecDepth 100000 in
set_option maxHeartbeats 4000000 in
theorem validSlot_no (r : Ru) (A A1 : Option Addr) (n c m c1 : Nat) (i p d v b : Int) (w : World) (q : Bool) (hq : (decide (m = 0) && decide (p = 0) && decide (d = 0) && decide (v = 0) && decide (b = 0)) = q) :
    Calls Try.prog 54 #[.agg #[.int .i64 r.p, .int .i64 r.s, .bool r.st, .bool r.sk, .bool r.re, .bool r.fe, .bool r.ag, .int .i64 r.ca, .int .i64 r.sl, .slice A n c], .int .i64 i, .agg #[.bool false, .slice A1 m c1, .int .i64 p, .int .i64 d, .int .i64 v, .int .i64 b]] w fun e w' => e = .returned (.bool q) ∧ Below w.heap.size w w' := by
  by_cases h0 : m = 0
  case neg =>
    obtain rfl : q = false := by rw [← hq]; simp [h0]
    have z0 : ((m : Int) == 0) = false := beq_eq_false_iff_ne.2 (by omega)
    clear hq
    go_enter Try.func54, Try.ntmps54
    go_wp2
    go_ret
    exact ⟨rfl, by (repeat' (first | (with_reducible exact Below.refl _ _) | (with_reducible assumption) | (with_reducible refine Below.alloc ?_ ?_ _) | (with_reducible refine Below.drew ?_) | (with_reducible refine belowDrewN ?_ _) | (with_reducible refine Below.setCell ?_ ?_ _) | (with_reducible refine Below.via (by with_reducible assumption) ?_ ?_) | (with_reducible refine Below.viaD (by with_reducible assumption) ?_ ?_) | (with_reducible exact Below.size (by with_reducible assumption)) | go_size | (with_reducible refine Nat.le_trans ?_ (Below.size (by with_reducible assumption))) | (with_reducible refine Nat.le_trans ?_ (sizeAlloc _ _)) | (with_reducible refine Nat.le_trans ?_ (sizeSet _ _ _)) | (with_reducible refine Nat.le_trans ?_ (sizeDrew _))))⟩
  case pos =>
    subst h0
    by_cases h1 : p = 0
    case neg =>
      obtain rfl : q = false := by rw [← hq]; simp [h1]
      have z1 : (p == 0) = false := beq_eq_false_iff_ne.2 (by omega)
      clear hq
      go_enter Try.func54, Try.ntmps54
      go_wp2
      go_ret
      exact ⟨rfl, by (repeat' (first | (with_reducible exact Below.refl _ _) | (with_reducible assumption) | (with_reducible refine Below.alloc ?_ ?_ _) | (with_reducible refine Below.drew ?_) | (with_reducible refine belowDrewN ?_ _) | (with_reducible refine Below.setCell ?_ ?_ _) | (with_reducible refine Below.via (by with_reducible assumption) ?_ ?_) | (with_reducible refine Below.viaD (by with_reducible assumption) ?_ ?_) | (with_reducible exact Below.size (by with_reducible assumption)) | go_size | (with_reducible refine Nat.le_trans ?_ (Below.size (by with_reducible assumption))) | (with_reducible refine Nat.le_trans ?_ (sizeAlloc _ _)) | (with_reducible refine Nat.le_trans ?_ (sizeSet _ _ _)) | (with_reducible refine Nat.le_trans ?_ (sizeDrew _))))⟩
    case pos =>
      subst h1
      by_cases h2 : d = 0
      case neg =>
        obtain rfl : q = false := by rw [← hq]; simp [h2]
        have z2 : (d == 0) = false := beq_eq_false_iff_ne.2 (by omega)
        clear hq
        go_enter Try.func54, Try.ntmps54
        go_wp2
        go_ret
        exact ⟨rfl, by (repeat' (first | (with_reducible exact Below.refl _ _) | (with_reducible assumption) | (with_reducible refine Below.alloc ?_ ?_ _) | (with_reducible refine Below.drew ?_) | (with_reducible refine belowDrewN ?_ _) | (with_reducible refine Below.setCell ?_ ?_ _) | (with_reducible refine Below.via (by with_reducible assumption) ?_ ?_) | (with_reducible refine Below.viaD (by with_reducible assumption) ?_ ?_) | (with_reducible exact Below.size (by with_reducible assumption)) | go_size | (with_reducible refine Nat.le_trans ?_ (Below.size (by with_reducible assumption))) | (with_reducible refine Nat.le_trans ?_ (sizeAlloc _ _)) | (with_reducible refine Nat.le_trans ?_ (sizeSet _ _ _)) | (with_reducible refine Nat.le_trans ?_ (sizeDrew _))))⟩
      case pos =>
        subst h2
        by_cases h3 : v = 0
        case neg =>
          obtain rfl : q = false := by rw [← hq]; simp [h3]
          have z3 : (v == 0) = false := beq_eq_false_iff_ne.2 (by omega)
          clear hq
          go_enter Try.func54, Try.ntmps54
          go_wp2
          go_ret
          exact ⟨rfl, by (repeat' (first | (with_reducible exact Below.refl _ _) | (with_reducible assumption) | (with_reducible refine Below.alloc ?_ ?_ _) | (with_reducible refine Below.drew ?_) | (with_reducible refine belowDrewN ?_ _) | (with_reducible refine Below.setCell ?_ ?_ _) | (with_reducible refine Below.via (by with_reducible assumption) ?_ ?_) | (with_reducible refine Below.viaD (by with_reducible assumption) ?_ ?_) | (with_reducible exact Below.size (by with_reducible assumption)) | go_size | (with_reducible refine Nat.le_trans ?_ (Below.size (by with_reducible assumption))) | (with_reducible refine Nat.le_trans ?_ (sizeAlloc _ _)) | (with_reducible refine Nat.le_trans ?_ (sizeSet _ _ _)) | (with_reducible refine Nat.le_trans ?_ (sizeDrew _))))⟩
        case pos =>
          subst h3
          by_cases h4 : b = 0
          case neg =>
            obtain rfl : q = false := by rw [← hq]; simp [h4]
            have z4 : (b == 0) = false := beq_eq_false_iff_ne.2 (by omega)
            clear hq
            go_enter Try.func54, Try.ntmps54
            go_wp2
            go_ret
            exact ⟨rfl, by (repeat' (first | (with_reducible exact Below.refl _ _) | (with_reducible assumption) | (with_reducible refine Below.alloc ?_ ?_ _) | (with_reducible refine Below.drew ?_) | (with_reducible refine belowDrewN ?_ _) | (with_reducible refine Below.setCell ?_ ?_ _) | (with_reducible refine Below.via (by with_reducible assumption) ?_ ?_) | (with_reducible refine Below.viaD (by with_reducible assumption) ?_ ?_) | (with_reducible exact Below.size (by with_reducible assumption)) | go_size | (with_reducible refine Nat.le_trans ?_ (Below.size (by with_reducible assumption))) | (with_reducible refine Nat.le_trans ?_ (sizeAlloc _ _)) | (with_reducible refine Nat.le_trans ?_ (sizeSet _ _ _)) | (with_reducible refine Nat.le_trans ?_ (sizeDrew _))))⟩
          case pos =>
            subst h4
            obtain rfl : q = true := by rw [← hq]; simp
            clear hq
            go_enter Try.func54, Try.ntmps54
            go_wp2
            go_ret
            exact ⟨rfl, by (repeat' (first | (with_reducible exact Below.refl _ _) | (with_reducible assumption) | (with_reducible refine Below.alloc ?_ ?_ _) | (with_reducible refine Below.drew ?_) | (with_reducible refine belowDrewN ?_ _) | (with_reducible refine Below.setCell ?_ ?_ _) | (with_reducible refine Below.via (by with_reducible assumption) ?_ ?_) | (with_reducible refine Below.viaD (by with_reducible assumption) ?_ ?_) | (with_reducible exact Below.size (by with_reducible assumption)) | go_size | (with_reducible refine Nat.le_trans ?_ (Below.size (by with_reducible assumption))) | (with_reducible refine Nat.le_trans ?_ (sizeAlloc _ _)) | (with_reducible refine Nat.le_trans ?_ (sizeSet _ _ _)) | (with_reducible refine Nat.le_trans ?_ (sizeDrew _))))⟩
set_option maxRecDepth 100000 in
set_option maxHeartbeats 8000000 in
theorem validSlot_yes (r : Ru) (A A1 : Option Addr) (n c m c1 : Nat) (i p d v b : Int) (ps : List Int) (w : World) (hs : Sl w w.heap.size 1 A1 m (ps.map (Value.int .i64))) (hm : m ≤ 1048576) (hn : 1 ≤ n) (hn2 : n ≤ 64) :
    Calls Try.prog 54 #[.agg #[.int .i64 r.p, .int .i64 r.s, .bool r.st, .bool r.sk, .bool r.re, .bool r.fe, .bool r.ag, .int .i64 r.ca, .int .i64 r.sl, .slice A n c], .int .i64 i, .agg #[.bool true, .slice A1 m c1, .int .i64 p, .int .i64 d, .int .i64 v, .int .i64 b]] w fun e w' => e = .returned (.bool (okSlot r n i ⟨true, ps, p, d, v, b⟩)) ∧ Below w.heap.size w w' := by
  have HL := Lib.hid hs.ints
  have HSL := Lib.hid hs
  have hst := Lib.hid (vs_start w r A n c (.bool true) (.slice A1 m c1) (.int .i64 p) (.int .i64 d) (.int .i64 v) (.int .i64 b) 27 81)
  obtain ⟨q, hq⟩ : ∃ q, okSlot r n i ⟨true, ps, p, d, v, b⟩ = q := ⟨_, rfl⟩
  have HQ := Lib.hid hq
  clear hq hs
  rw [HQ.out]
  have hE : q = (okPos r ⟨ps, [0, 0], p⟩ && okCont d v b && decide (placeR ps p n = i)) := HQ.out.symm
  obtain ⟨z, hz⟩ : ∃ z, placeR ps p n = z := ⟨_, rfl⟩
  obtain ⟨q1, hq1⟩ : ∃ q, okPos r ⟨ps, [0, 0], p⟩ = q := ⟨_, rfl⟩
  obtain ⟨q2, hq2⟩ : ∃ q, okCont d v b = q := ⟨_, rfl⟩
  have H1 := Lib.hid hq1
  have H2 := Lib.hid hq2
  have HZ := Lib.hid hz
  rw [hq1, hq2, hz] at hE
  clear hq1 hq2 hz HQ
  have HP : Hid (∀ w' g, Sl w' w'.heap.size 1 (some ⟨g, 0, none⟩) 2 (([0, 0] : List Int).map (Value.int .i64)) → Below w.heap.size w w' → Calls Try.prog 79 #[.agg #[.int .i64 r.p, .int .i64 r.s, .bool r.st, .bool r.sk, .bool r.re, .bool r.fe, .bool r.ag, .int .i64 r.ca, .int .i64 r.sl], .agg #[.slice A1 m c1, .slice (some ⟨g, 0, none⟩) 2 2, .int .i64 p]] w' fun e w'' => e = .returned (.bool q1) ∧ Below w'.heap.size w' w'') := fun w' g s hb => by
    rw [← H1.out]
    exact ValidPosition_two r [_, _, _] ⟨ps, [0, 0], p⟩ w' ⟨_, _, _, _, _, _, rfl, HSL.out.later hb, by omega, s, by omega⟩ ⟨by show ps.length ≤ _; rw [HL.out]; exact hm, by show (2 : Nat) ≤ _; omega⟩
  have HC : Hid (∀ w', Calls Try.prog 81 #[.int .i64 d, .int .i64 v, .int .i64 b] w' fun e w'' => e = .returned (.bool q2) ∧ w' = w'') := fun w' => by rw [← H2.out]; exact validContents_any d v b w'
  have HW : Hid (q1 = true → ∀ w' (g : Nat), Below w.heap.size w w' → Calls Try.prog 60 #[.agg #[.int .i64 r.p, .int .i64 r.s, .bool r.st, .bool r.sk, .bool r.re, .bool r.fe, .bool r.ag, .int .i64 r.ca, .int .i64 r.sl, .slice A n c], .agg #[.slice A1 m c1, .slice (some ⟨g, 0, none⟩) 2 2, .int .i64 p]] w' fun e w'' => e = .returned (.int .i64 z) ∧ Below w'.heap.size w' w'') := fun h1 w' g hb => by
    have h2 := okPos_parts (H1.out.trans h1)
    rw [← HZ.out]
    exact place_any r A A1 _ n c m c1 2 2 p ps w' (HSL.out.later hb) h2.1 h2.2.1 h2.2.2 hn hn2 hm
  clear HL H1 H2 HZ HSL
  cases q1
  case false =>
    obtain rfl : q = false := by rw [hE]; rfl
    clear hE
    go_enter Try.func54, Try.ntmps54
    go_wp2_with fail
    have hS := hst.out
    refine wp_region_held_drew (S := (fun W => (W.cell? ⟨w.heap.size, 0, none⟩ = some (.int .i64 r.p) ∧ W.cell? ⟨w.heap.size, 1, none⟩ = some (.int .i64 r.s) ∧ W.cell? ⟨w.heap.size, 2, none⟩ = some (.bool r.st) ∧ W.cell? ⟨w.heap.size, 3, none⟩ = some (.bool r.sk) ∧ W.cell? ⟨w.heap.size, 4, none⟩ = some (.bool r.re) ∧ W.cell? ⟨w.heap.size, 5, none⟩ = some (.bool r.fe) ∧ W.cell? ⟨w.heap.size, 6, none⟩ = some (.bool r.ag) ∧ W.cell? ⟨w.heap.size, 7, none⟩ = some (.int .i64 r.ca) ∧ W.cell? ⟨w.heap.size, 8, none⟩ = some (.int .i64 r.sl) ∧ W.cell? ⟨w.heap.size, 9, none⟩ = some (.slice A n c)) ∧ (W.cell? ⟨w.heap.size + 1, 0, none⟩ = some (.bool true) ∧ W.cell? ⟨w.heap.size + 1, 1, none⟩ = some (.slice A1 m c1) ∧ W.cell? ⟨w.heap.size + 1, 2, none⟩ = some (.int .i64 p) ∧ W.cell? ⟨w.heap.size + 1, 3, none⟩ = some (.int .i64 d) ∧ W.cell? ⟨w.heap.size + 1, 4, none⟩ = some (.int .i64 v) ∧ W.cell? ⟨w.heap.size + 1, 5, none⟩ = some (.int .i64 b)) ∧ Below w.heap.size w W)) (by kernel_rfl) ?hS1 (fun hHeld => ?_)
    case hS1 => (try dsimp only); (first | (with_reducible exact vs_drew hS) | (with_reducible exact vs_keep (by with_reducible assumption) (by with_reducible assumption)) | (with_reducible assumption))
    refine H_take (i := 0) (v := ?v2) rfl (by kernel_rfl) (by kernel_rfl) (by kernel_rfl) (fun _ _ _ h => h) (by rfl) ?hy2 (by assumption) ?_
    case hy2 => (intro w hSw; (try dsimp only at hSw); go_simp; first | done | with_reducible rfl | (trace_state; fail))
    try simp only [Act.put, List.setIfInBounds_toArray, List.set_cons_zero, List.set_cons_succ]
    refine H_take (i := 1) (v := ?v3) rfl (by kernel_rfl) (by kernel_rfl) (by kernel_rfl) (fun _ _ _ h => h) (by rfl) ?hy3 (by assumption) ?_
    case hy3 => (intro w hSw; (try dsimp only at hSw); go_simp; first | done | with_reducible rfl | (trace_state; fail))
    try simp only [Act.put, List.setIfInBounds_toArray, List.set_cons_zero, List.set_cons_succ]
    refine H_take (i := 2) (v := ?v4) rfl (by kernel_rfl) (by kernel_rfl) (by kernel_rfl) (fun _ _ _ h => h) (by rfl) ?hy4 (by assumption) ?_
    case hy4 => (intro w hSw; (try dsimp only at hSw); go_simp; first | done | with_reducible rfl | (trace_state; fail))
    try simp only [Act.put, List.setIfInBounds_toArray, List.set_cons_zero, List.set_cons_succ]
    refine H_call (i := 3) rfl (by kernel_rfl) (fun K hK => ?_)
    go_simp
    (go_at_call 80; (with_reducible refine Calls.mono (position_any _ _ _ _ _ _ _ _ _) ?_); rintro e w3 ⟨g3, rfl, hg3, s3, hb3⟩)
    refine hK.out _ _ ?hS5 (fun hHeld => ?_)
    case hS5 => (try dsimp only); (first | (with_reducible exact vs_drew hS) | (with_reducible exact vs_keep (by with_reducible assumption) (by with_reducible assumption)) | (with_reducible assumption))
    clear hK K
    try simp only [Act.put, List.setIfInBounds_toArray, List.set_cons_zero, List.set_cons_succ]
    refine H_call (i := 4) rfl (by kernel_rfl) (fun K hK => ?_)
    go_simp
    (go_at_call 79; (with_reducible refine Calls.mono (HP.out _ _ ?_ ?_) ?_); (first | exact s3 | exact s3.later (by (repeat' (first | (with_reducible exact Below.refl _ _) | (with_reducible assumption) | (with_reducible refine Below.alloc ?_ ?_ _) | (with_reducible refine Below.drew ?_) | (with_reducible refine belowDrewN ?_ _) | (with_reducible refine Below.setCell ?_ ?_ _) | (with_reducible refine Below.via (by with_reducible assumption) ?_ ?_) | (with_reducible refine Below.viaD (by with_reducible assumption) ?_ ?_) | (with_reducible exact Below.size (by with_reducible assumption)) | go_size | (with_reducible refine Nat.le_trans ?_ (Below.size (by with_reducible assumption))) | (with_reducible refine Nat.le_trans ?_ (sizeAlloc _ _)) | (with_reducible refine Nat.le_trans ?_ (sizeSet _ _ _)) | (with_reducible refine Nat.le_trans ?_ (sizeDrew _)))))); (with_reducible exact And.right (And.right (by with_reducible assumption))); rintro e w4 ⟨rfl, hb4⟩)
    refine hK.out _ _ ?hS6 (fun hHeld => ?_)
    case hS6 => (try dsimp only); (first | (with_reducible exact vs_drew hS) | (with_reducible exact vs_keep (by with_reducible assumption) (by with_reducible assumption)) | (with_reducible assumption))
    clear hK K
    try simp only [Act.put, List.setIfInBounds_toArray, List.set_cons_zero, List.set_cons_succ]
    refine H_take (i := 5) (v := ?v7) rfl (by kernel_rfl) (by kernel_rfl) (by kernel_rfl) (fun _ _ _ h => h) (by rfl) ?hy7 (by assumption) ?_
    case hy7 => (intro w hSw; (try dsimp only at hSw); go_simp; first | done | with_reducible rfl | (trace_state; fail))
    try simp only [Act.put, List.setIfInBounds_toArray, List.set_cons_zero, List.set_cons_succ]
    refine H_pass (i := 6) rfl (by kernel_rfl) (by kernel_rfl) (by kernel_rfl) (fun _ _ _ h => h) (by rfl) (by assumption) ?_
    try simp only [Act.put, List.setIfInBounds_toArray, List.set_cons_zero, List.set_cons_succ]
    refine H_pass (i := 7) rfl (by kernel_rfl) (by kernel_rfl) (by kernel_rfl) (fun _ _ _ h => h) (by rfl) (by assumption) ?_
    try simp only [Act.put, List.setIfInBounds_toArray, List.set_cons_zero, List.set_cons_succ]
    refine H_pass (i := 8) rfl (by kernel_rfl) (by kernel_rfl) (by kernel_rfl) (fun _ _ _ h => h) (by rfl) (by assumption) ?_
    try simp only [Act.put, List.setIfInBounds_toArray, List.set_cons_zero, List.set_cons_succ]
    refine H_pass (i := 9) rfl (by kernel_rfl) (by kernel_rfl) (by kernel_rfl) (fun _ _ _ h => h) (by rfl) (by assumption) ?_
    try simp only [Act.put, List.setIfInBounds_toArray, List.set_cons_zero, List.set_cons_succ]
    refine H_pass (i := 10) rfl (by kernel_rfl) (by kernel_rfl) (by kernel_rfl) (fun _ _ _ h => h) (by rfl) (by assumption) ?_
    try simp only [Act.put, List.setIfInBounds_toArray, List.set_cons_zero, List.set_cons_succ]
    refine H_pass (i := 11) rfl (by kernel_rfl) (by kernel_rfl) (by kernel_rfl) (fun _ _ _ h => h) (by rfl) (by assumption) ?_
    try simp only [Act.put, List.setIfInBounds_toArray, List.set_cons_zero, List.set_cons_succ]
    refine H_pass (i := 12) rfl (by kernel_rfl) (by kernel_rfl) (by kernel_rfl) (fun _ _ _ h => h) (by rfl) (by assumption) ?_
    try simp only [Act.put, List.setIfInBounds_toArray, List.set_cons_zero, List.set_cons_succ]
    refine H_take (i := 13) (v := ?v8) rfl (by kernel_rfl) (by kernel_rfl) (by kernel_rfl) (fun _ _ _ h => h) (by rfl) ?hy8 (by assumption) ?_
    case hy8 => (intro w hSw; (try dsimp only at hSw); go_simp; first | done | with_reducible rfl | (trace_state; fail))
    try simp only [Act.put, List.setIfInBounds_toArray, List.set_cons_zero, List.set_cons_succ]
    refine H_take (i := 14) (v := ?v9) rfl (by kernel_rfl) (by kernel_rfl) (by kernel_rfl) (fun _ _ _ h => h) (by rfl) ?hy9 (by assumption) ?_
    case hy9 => (intro w hSw; (try dsimp only at hSw); go_simp; first | done | with_reducible rfl | (trace_state; fail))
    try simp only [Act.put, List.setIfInBounds_toArray, List.set_cons_zero, List.set_cons_succ]
    refine H_pass (i := 15) rfl (by kernel_rfl) (by kernel_rfl) (by kernel_rfl) (fun _ _ _ h => h) (by rfl) (by assumption) ?_
    try simp only [Act.put, List.setIfInBounds_toArray, List.set_cons_zero, List.set_cons_succ]
    refine H_pass (i := 16) rfl (by kernel_rfl) (by kernel_rfl) (by kernel_rfl) (fun _ _ _ h => h) (by rfl) (by assumption) ?_
    try simp only [Act.put, List.setIfInBounds_toArray, List.set_cons_zero, List.set_cons_succ]
    refine H_pass (i := 17) rfl (by kernel_rfl) (by kernel_rfl) (by kernel_rfl) (fun _ _ _ h => h) (by rfl) (by assumption) ?_
    try simp only [Act.put, List.setIfInBounds_toArray, List.set_cons_zero, List.set_cons_succ]
    refine H_pass (i := 18) rfl (by kernel_rfl) (by kernel_rfl) (by kernel_rfl) (fun _ _ _ h => h) (by rfl) (by assumption) ?_
    try simp only [Act.put, List.setIfInBounds_toArray, List.set_cons_zero, List.set_cons_succ]
    refine H_pass (i := 19) rfl (by kernel_rfl) (by kernel_rfl) (by kernel_rfl) (fun _ _ _ h => h) (by rfl) (by assumption) ?_
    try simp only [Act.put, List.setIfInBounds_toArray, List.set_cons_zero, List.set_cons_succ]
    refine H_pass (i := 20) rfl (by kernel_rfl) (by kernel_rfl) (by kernel_rfl) (fun _ _ _ h => h) (by rfl) (by assumption) ?_
    try simp only [Act.put, List.setIfInBounds_toArray, List.set_cons_zero, List.set_cons_succ]
    refine H_take (i := 21) (v := ?v10) rfl (by kernel_rfl) (by kernel_rfl) (by kernel_rfl) (fun _ _ _ h => h) (by rfl) ?hy10 (by assumption) ?_
    case hy10 => (intro w hSw; (try dsimp only at hSw); go_simp; first | done | with_reducible rfl | (trace_state; fail))
    try simp only [Act.put, List.setIfInBounds_toArray, List.set_cons_zero, List.set_cons_succ]
    refine H_take (i := 22) (v := ?v11) rfl (by kernel_rfl) (by kernel_rfl) (by kernel_rfl) (fun _ _ _ h => h) (by rfl) ?hy11 (by assumption) ?_
    case hy11 => (intro w hSw; (try dsimp only at hSw); go_simp; first | done | with_reducible rfl | (trace_state; fail))
    try simp only [Act.put, List.setIfInBounds_toArray, List.set_cons_zero, List.set_cons_succ]
    refine wpAnyH_done (by kernel_rfl) ?_ _
    have hB := And.right (And.right hHeld)
    go_wp2_with fail
    go_ret
    exact ⟨rfl, hB⟩
  case true =>
    cases q2
    case false =>
      obtain rfl : q = false := by rw [hE]; rfl
      clear hE
      go_enter Try.func54, Try.ntmps54
      go_wp2_with fail
      have hS := hst.out
      refine wp_region_held_drew (S := (fun W => (W.cell? ⟨w.heap.size, 0, none⟩ = some (.int .i64 r.p) ∧ W.cell? ⟨w.heap.size, 1, none⟩ = some (.int .i64 r.s) ∧ W.cell? ⟨w.heap.size, 2, none⟩ = some (.bool r.st) ∧ W.cell? ⟨w.heap.size, 3, none⟩ = some (.bool r.sk) ∧ W.cell? ⟨w.heap.size, 4, none⟩ = some (.bool r.re) ∧ W.cell? ⟨w.heap.size, 5, none⟩ = some (.bool r.fe) ∧ W.cell? ⟨w.heap.size, 6, none⟩ = some (.bool r.ag) ∧ W.cell? ⟨w.heap.size, 7, none⟩ = some (.int .i64 r.ca) ∧ W.cell? ⟨w.heap.size, 8, none⟩ = some (.int .i64 r.sl) ∧ W.cell? ⟨w.heap.size, 9, none⟩ = some (.slice A n c)) ∧ (W.cell? ⟨w.heap.size + 1, 0, none⟩ = some (.bool true) ∧ W.cell? ⟨w.heap.size + 1, 1, none⟩ = some (.slice A1 m c1) ∧ W.cell? ⟨w.heap.size + 1, 2, none⟩ = some (.int .i64 p) ∧ W.cell? ⟨w.heap.size + 1, 3, none⟩ = some (.int .i64 d) ∧ W.cell? ⟨w.heap.size + 1, 4, none⟩ = some (.int .i64 v) ∧ W.cell? ⟨w.heap.size + 1, 5, none⟩ = some (.int .i64 b)) ∧ Below w.heap.size w W)) (by kernel_rfl) ?hS12 (fun hHeld => ?_)
      case hS12 => (try dsimp only); (first | (with_reducible exact vs_drew hS) | (with_reducible exact vs_keep (by with_reducible assumption) (by with_reducible assumption)) | (with_reducible assumption))
      refine H_take (i := 0) (v := ?v13) rfl (by kernel_rfl) (by kernel_rfl) (by kernel_rfl) (fun _ _ _ h => h) (by rfl) ?hy13 (by assumption) ?_
      case hy13 => (intro w hSw; (try dsimp only at hSw); go_simp; first | done | with_reducible rfl | (trace_state; fail))
      try simp only [Act.put, List.setIfInBounds_toArray, List.set_cons_zero, List.set_cons_succ]
      refine H_take (i := 1) (v := ?v14) rfl (by kernel_rfl) (by kernel_rfl) (by kernel_rfl) (fun _ _ _ h => h) (by rfl) ?hy14 (by assumption) ?_
      case hy14 => (intro w hSw; (try dsimp only at hSw); go_simp; first | done | with_reducible rfl | (trace_state; fail))
      try simp only [Act.put, List.setIfInBounds_toArray, List.set_cons_zero, List.set_cons_succ]
      refine H_take (i := 2) (v := ?v15) rfl (by kernel_rfl) (by kernel_rfl) (by kernel_rfl) (fun _ _ _ h => h) (by rfl) ?hy15 (by assumption) ?_
      case hy15 => (intro w hSw; (try dsimp only at hSw); go_simp; first | done | with_reducible rfl | (trace_state; fail))
      try simp only [Act.put, List.setIfInBounds_toArray, List.set_cons_zero, List.set_cons_succ]
      refine H_call (i := 3) rfl (by kernel_rfl) (fun K hK => ?_)
      go_simp
      (go_at_call 80; (with_reducible refine Calls.mono (position_any _ _ _ _ _ _ _ _ _) ?_); rintro e w3 ⟨g3, rfl, hg3, s3, hb3⟩)
      refine hK.out _ _ ?hS16 (fun hHeld => ?_)
      case hS16 => (try dsimp only); (first | (with_reducible exact vs_drew hS) | (with_reducible exact vs_keep (by with_reducible assumption) (by with_reducible assumption)) | (with_reducible assumption))
      clear hK K
      try simp only [Act.put, List.setIfInBounds_toArray, List.set_cons_zero, List.set_cons_succ]
      refine H_call (i := 4) rfl (by kernel_rfl) (fun K hK => ?_)
      go_simp
      (go_at_call 79; (with_reducible refine Calls.mono (HP.out _ _ ?_ ?_) ?_); (first | exact s3 | exact s3.later (by (repeat' (first | (with_reducible exact Below.refl _ _) | (with_reducible assumption) | (with_reducible refine Below.alloc ?_ ?_ _) | (with_reducible refine Below.drew ?_) | (with_reducible refine belowDrewN ?_ _) | (with_reducible refine Below.setCell ?_ ?_ _) | (with_reducible refine Below.via (by with_reducible assumption) ?_ ?_) | (with_reducible refine Below.viaD (by with_reducible assumption) ?_ ?_) | (with_reducible exact Below.size (by with_reducible assumption)) | go_size | (with_reducible refine Nat.le_trans ?_ (Below.size (by with_reducible assumption))) | (with_reducible refine Nat.le_trans ?_ (sizeAlloc _ _)) | (with_reducible refine Nat.le_trans ?_ (sizeSet _ _ _)) | (with_reducible refine Nat.le_trans ?_ (sizeDrew _)))))); (with_reducible exact And.right (And.right (by with_reducible assumption))); rintro e w4 ⟨rfl, hb4⟩)
      refine hK.out _ _ ?hS17 (fun hHeld => ?_)
      case hS17 => (try dsimp only); (first | (with_reducible exact vs_drew hS) | (with_reducible exact vs_keep (by with_reducible assumption) (by with_reducible assumption)) | (with_reducible assumption))
      clear hK K
      try simp only [Act.put, List.setIfInBounds_toArray, List.set_cons_zero, List.set_cons_succ]
      refine H_take (i := 5) (v := ?v18) rfl (by kernel_rfl) (by kernel_rfl) (by kernel_rfl) (fun _ _ _ h => h) (by rfl) ?hy18 (by assumption) ?_
      case hy18 => (intro w hSw; (try dsimp only at hSw); go_simp; first | done | with_reducible rfl | (trace_state; fail))
      try simp only [Act.put, List.setIfInBounds_toArray, List.set_cons_zero, List.set_cons_succ]
      refine H_take (i := 6) (v := ?v19) rfl (by kernel_rfl) (by kernel_rfl) (by kernel_rfl) (fun _ _ _ h => h) (by rfl) ?hy19 (by assumption) ?_
      case hy19 => (intro w hSw; (try dsimp only at hSw); go_simp; first | done | with_reducible rfl | (trace_state; fail))
      try simp only [Act.put, List.setIfInBounds_toArray, List.set_cons_zero, List.set_cons_succ]
      refine H_take (i := 7) (v := ?v20) rfl (by kernel_rfl) (by kernel_rfl) (by kernel_rfl) (fun _ _ _ h => h) (by rfl) ?hy20 (by assumption) ?_
      case hy20 => (intro w hSw; (try dsimp only at hSw); go_simp; first | done | with_reducible rfl | (trace_state; fail))
      try simp only [Act.put, List.setIfInBounds_toArray, List.set_cons_zero, List.set_cons_succ]
      refine H_take (i := 8) (v := ?v21) rfl (by kernel_rfl) (by kernel_rfl) (by kernel_rfl) (fun _ _ _ h => h) (by rfl) ?hy21 (by assumption) ?_
      case hy21 => (intro w hSw; (try dsimp only at hSw); go_simp; first | done | with_reducible rfl | (trace_state; fail))
      try simp only [Act.put, List.setIfInBounds_toArray, List.set_cons_zero, List.set_cons_succ]
      refine H_take (i := 9) (v := ?v22) rfl (by kernel_rfl) (by kernel_rfl) (by kernel_rfl) (fun _ _ _ h => h) (by rfl) ?hy22 (by assumption) ?_
      case hy22 => (intro w hSw; (try dsimp only at hSw); go_simp; first | done | with_reducible rfl | (trace_state; fail))
      try simp only [Act.put, List.setIfInBounds_toArray, List.set_cons_zero, List.set_cons_succ]
      refine H_take (i := 10) (v := ?v23) rfl (by kernel_rfl) (by kernel_rfl) (by kernel_rfl) (fun _ _ _ h => h) (by rfl) ?hy23 (by assumption) ?_
      case hy23 => (intro w hSw; (try dsimp only at hSw); go_simp; first | done | with_reducible rfl | (trace_state; fail))
      try simp only [Act.put, List.setIfInBounds_toArray, List.set_cons_zero, List.set_cons_succ]
      refine H_take (i := 11) (v := ?v24) rfl (by kernel_rfl) (by kernel_rfl) (by kernel_rfl) (fun _ _ _ h => h) (by rfl) ?hy24 (by assumption) ?_
      case hy24 => (intro w hSw; (try dsimp only at hSw); go_simp; first | done | with_reducible rfl | (trace_state; fail))
      try simp only [Act.put, List.setIfInBounds_toArray, List.set_cons_zero, List.set_cons_succ]
      refine H_call (i := 12) rfl (by kernel_rfl) (fun K hK => ?_)
      go_simp
      (go_at_call 81; (with_reducible refine Calls.mono (HC.out _) ?_); rintro e w5 ⟨rfl, rfl⟩)
      refine hK.out _ _ ?hS25 (fun hHeld => ?_)
      case hS25 => (try dsimp only); (first | (with_reducible exact vs_drew hS) | (with_reducible exact vs_keep (by with_reducible assumption) (by with_reducible assumption)) | (with_reducible assumption))
      clear hK K
      try simp only [Act.put, List.setIfInBounds_toArray, List.set_cons_zero, List.set_cons_succ]
      refine H_take (i := 13) (v := ?v26) rfl (by kernel_rfl) (by kernel_rfl) (by kernel_rfl) (fun _ _ _ h => h) (by rfl) ?hy26 (by assumption) ?_
      case hy26 => (intro w hSw; (try dsimp only at hSw); go_simp; first | done | with_reducible rfl | (trace_state; fail))
      try simp only [Act.put, List.setIfInBounds_toArray, List.set_cons_zero, List.set_cons_succ]
      refine H_take (i := 14) (v := ?v27) rfl (by kernel_rfl) (by kernel_rfl) (by kernel_rfl) (fun _ _ _ h => h) (by rfl) ?hy27 (by assumption) ?_
      case hy27 => (intro w hSw; (try dsimp only at hSw); go_simp; first | done | with_reducible rfl | (trace_state; fail))
      try simp only [Act.put, List.setIfInBounds_toArray, List.set_cons_zero, List.set_cons_succ]
      refine H_pass (i := 15) rfl (by kernel_rfl) (by kernel_rfl) (by kernel_rfl) (fun _ _ _ h => h) (by rfl) (by assumption) ?_
      try simp only [Act.put, List.setIfInBounds_toArray, List.set_cons_zero, List.set_cons_succ]
      refine H_pass (i := 16) rfl (by kernel_rfl) (by kernel_rfl) (by kernel_rfl) (fun _ _ _ h => h) (by rfl) (by assumption) ?_
      try simp only [Act.put, List.setIfInBounds_toArray, List.set_cons_zero, List.set_cons_succ]
      refine H_pass (i := 17) rfl (by kernel_rfl) (by kernel_rfl) (by kernel_rfl) (fun _ _ _ h => h) (by rfl) (by assumption) ?_
      try simp only [Act.put, List.setIfInBounds_toArray, List.set_cons_zero, List.set_cons_succ]
      refine H_pass (i := 18) rfl (by kernel_rfl) (by kernel_rfl) (by kernel_rfl) (fun _ _ _ h => h) (by rfl) (by assumption) ?_
      try simp only [Act.put, List.setIfInBounds_toArray, List.set_cons_zero, List.set_cons_succ]
      refine H_pass (i := 19) rfl (by kernel_rfl) (by kernel_rfl) (by kernel_rfl) (fun _ _ _ h => h) (by rfl) (by assumption) ?_
      try simp only [Act.put, List.setIfInBounds_toArray, List.set_cons_zero, List.set_cons_succ]
      refine H_pass (i := 20) rfl (by kernel_rfl) (by kernel_rfl) (by kernel_rfl) (fun _ _ _ h => h) (by rfl) (by assumption) ?_
      try simp only [Act.put, List.setIfInBounds_toArray, List.set_cons_zero, List.set_cons_succ]
      refine H_take (i := 21) (v := ?v28) rfl (by kernel_rfl) (by kernel_rfl) (by kernel_rfl) (fun _ _ _ h => h) (by rfl) ?hy28 (by assumption) ?_
      case hy28 => (intro w hSw; (try dsimp only at hSw); go_simp; first | done | with_reducible rfl | (trace_state; fail))
      try simp only [Act.put, List.setIfInBounds_toArray, List.set_cons_zero, List.set_cons_succ]
      refine H_take (i := 22) (v := ?v29) rfl (by kernel_rfl) (by kernel_rfl) (by kernel_rfl) (fun _ _ _ h => h) (by rfl) ?hy29 (by assumption) ?_
      case hy29 => (intro w hSw; (try dsimp only at hSw); go_simp; first | done | with_reducible rfl | (trace_state; fail))
      try simp only [Act.put, List.setIfInBounds_toArray, List.set_cons_zero, List.set_cons_succ]
      refine wpAnyH_done (by kernel_rfl) ?_ _
      have hB := And.right (And.right hHeld)
      go_wp2_with fail
      go_ret
      exact ⟨rfl, hB⟩
    case true =>
      by_cases hzi : z = i
      case neg =>
        obtain rfl : q = false := by rw [hE]; simp [hzi]
        have hzb : (z == i) = false := beq_eq_false_iff_ne.2 hzi
        clear hE
        go_enter Try.func54, Try.ntmps54
        go_wp2_with fail
        have hS := hst.out
        refine wp_region_held_drew (S := (fun W => (W.cell? ⟨w.heap.size, 0, none⟩ = some (.int .i64 r.p) ∧ W.cell? ⟨w.heap.size, 1, none⟩ = some (.int .i64 r.s) ∧ W.cell? ⟨w.heap.size, 2, none⟩ = some (.bool r.st) ∧ W.cell? ⟨w.heap.size, 3, none⟩ = some (.bool r.sk) ∧ W.cell? ⟨w.heap.size, 4, none⟩ = some (.bool r.re) ∧ W.cell? ⟨w.heap.size, 5, none⟩ = some (.bool r.fe) ∧ W.cell? ⟨w.heap.size, 6, none⟩ = some (.bool r.ag) ∧ W.cell? ⟨w.heap.size, 7, none⟩ = some (.int .i64 r.ca) ∧ W.cell? ⟨w.heap.size, 8, none⟩ = some (.int .i64 r.sl) ∧ W.cell? ⟨w.heap.size, 9, none⟩ = some (.slice A n c)) ∧ (W.cell? ⟨w.heap.size + 1, 0, none⟩ = some (.bool true) ∧ W.cell? ⟨w.heap.size + 1, 1, none⟩ = some (.slice A1 m c1) ∧ W.cell? ⟨w.heap.size + 1, 2, none⟩ = some (.int .i64 p) ∧ W.cell? ⟨w.heap.size + 1, 3, none⟩ = some (.int .i64 d) ∧ W.cell? ⟨w.heap.size + 1, 4, none⟩ = some (.int .i64 v) ∧ W.cell? ⟨w.heap.size + 1, 5, none⟩ = some (.int .i64 b)) ∧ Below w.heap.size w W)) (by kernel_rfl) ?hS30 (fun hHeld => ?_)
        case hS30 => (try dsimp only); (first | (with_reducible exact vs_drew hS) | (with_reducible exact vs_keep (by with_reducible assumption) (by with_reducible assumption)) | (with_reducible assumption))
        refine H_take (i := 0) (v := ?v31) rfl (by kernel_rfl) (by kernel_rfl) (by kernel_rfl) (fun _ _ _ h => h) (by rfl) ?hy31 (by assumption) ?_
        case hy31 => (intro w hSw; (try dsimp only at hSw); go_simp; first | done | with_reducible rfl | (trace_state; fail))
        try simp only [Act.put, List.setIfInBounds_toArray, List.set_cons_zero, List.set_cons_succ]
        refine H_take (i := 1) (v := ?v32) rfl (by kernel_rfl) (by kernel_rfl) (by kernel_rfl) (fun _ _ _ h => h) (by rfl) ?hy32 (by assumption) ?_
        case hy32 => (intro w hSw; (try dsimp only at hSw); go_simp; first | done | with_reducible rfl | (trace_state; fail))
        try simp only [Act.put, List.setIfInBounds_toArray, List.set_cons_zero, List.set_cons_succ]
        refine H_take (i := 2) (v := ?v33) rfl (by kernel_rfl) (by kernel_rfl) (by kernel_rfl) (fun _ _ _ h => h) (by rfl) ?hy33 (by assumption) ?_
        case hy33 => (intro w hSw; (try dsimp only at hSw); go_simp; first | done | with_reducible rfl | (trace_state; fail))
        try simp only [Act.put, List.setIfInBounds_toArray, List.set_cons_zero, List.set_cons_succ]
        refine H_call (i := 3) rfl (by kernel_rfl) (fun K hK => ?_)
        go_simp
        (go_at_call 80; (with_reducible refine Calls.mono (position_any _ _ _ _ _ _ _ _ _) ?_); rintro e w3 ⟨g3, rfl, hg3, s3, hb3⟩)
        refine hK.out _ _ ?hS34 (fun hHeld => ?_)
        case hS34 => (try dsimp only); (first | (with_reducible exact vs_drew hS) | (with_reducible exact vs_keep (by with_reducible assumption) (by with_reducible assumption)) | (with_reducible assumption))
        clear hK K
        try simp only [Act.put, List.setIfInBounds_toArray, List.set_cons_zero, List.set_cons_succ]
        refine H_call (i := 4) rfl (by kernel_rfl) (fun K hK => ?_)
        go_simp
        (go_at_call 79; (with_reducible refine Calls.mono (HP.out _ _ ?_ ?_) ?_); (first | exact s3 | exact s3.later (by (repeat' (first | (with_reducible exact Below.refl _ _) | (with_reducible assumption) | (with_reducible refine Below.alloc ?_ ?_ _) | (with_reducible refine Below.drew ?_) | (with_reducible refine belowDrewN ?_ _) | (with_reducible refine Below.setCell ?_ ?_ _) | (with_reducible refine Below.via (by with_reducible assumption) ?_ ?_) | (with_reducible refine Below.viaD (by with_reducible assumption) ?_ ?_) | (with_reducible exact Below.size (by with_reducible assumption)) | go_size | (with_reducible refine Nat.le_trans ?_ (Below.size (by with_reducible assumption))) | (with_reducible refine Nat.le_trans ?_ (sizeAlloc _ _)) | (with_reducible refine Nat.le_trans ?_ (sizeSet _ _ _)) | (with_reducible refine Nat.le_trans ?_ (sizeDrew _)))))); (with_reducible exact And.right (And.right (by with_reducible assumption))); rintro e w4 ⟨rfl, hb4⟩)
        refine hK.out _ _ ?hS35 (fun hHeld => ?_)
        case hS35 => (try dsimp only); (first | (with_reducible exact vs_drew hS) | (with_reducible exact vs_keep (by with_reducible assumption) (by with_reducible assumption)) | (with_reducible assumption))
        clear hK K
        try simp only [Act.put, List.setIfInBounds_toArray, List.set_cons_zero, List.set_cons_succ]
        refine H_take (i := 5) (v := ?v36) rfl (by kernel_rfl) (by kernel_rfl) (by kernel_rfl) (fun _ _ _ h => h) (by rfl) ?hy36 (by assumption) ?_
        case hy36 => (intro w hSw; (try dsimp only at hSw); go_simp; first | done | with_reducible rfl | (trace_state; fail))
        try simp only [Act.put, List.setIfInBounds_toArray, List.set_cons_zero, List.set_cons_succ]
        refine H_take (i := 6) (v := ?v37) rfl (by kernel_rfl) (by kernel_rfl) (by kernel_rfl) (fun _ _ _ h => h) (by rfl) ?hy37 (by assumption) ?_
        case hy37 => (intro w hSw; (try dsimp only at hSw); go_simp; first | done | with_reducible rfl | (trace_state; fail))
        try simp only [Act.put, List.setIfInBounds_toArray, List.set_cons_zero, List.set_cons_succ]
        refine H_take (i := 7) (v := ?v38) rfl (by kernel_rfl) (by kernel_rfl) (by kernel_rfl) (fun _ _ _ h => h) (by rfl) ?hy38 (by assumption) ?_
        case hy38 => (intro w hSw; (try dsimp only at hSw); go_simp; first | done | with_reducible rfl | (trace_state; fail))
        try simp only [Act.put, List.setIfInBounds_toArray, List.set_cons_zero, List.set_cons_succ]
        refine H_take (i := 8) (v := ?v39) rfl (by kernel_rfl) (by kernel_rfl) (by kernel_rfl) (fun _ _ _ h => h) (by rfl) ?hy39 (by assumption) ?_
        case hy39 => (intro w hSw; (try dsimp only at hSw); go_simp; first | done | with_reducible rfl | (trace_state; fail))
        try simp only [Act.put, List.setIfInBounds_toArray, List.set_cons_zero, List.set_cons_succ]
        refine H_take (i := 9) (v := ?v40) rfl (by kernel_rfl) (by kernel_rfl) (by kernel_rfl) (fun _ _ _ h => h) (by rfl) ?hy40 (by assumption) ?_
        case hy40 => (intro w hSw; (try dsimp only at hSw); go_simp; first | done | with_reducible rfl | (trace_state; fail))
        try simp only [Act.put, List.setIfInBounds_toArray, List.set_cons_zero, List.set_cons_succ]
        refine H_take (i := 10) (v := ?v41) rfl (by kernel_rfl) (by kernel_rfl) (by kernel_rfl) (fun _ _ _ h => h) (by rfl) ?hy41 (by assumption) ?_
        case hy41 => (intro w hSw; (try dsimp only at hSw); go_simp; first | done | with_reducible rfl | (trace_state; fail))
        try simp only [Act.put, List.setIfInBounds_toArray, List.set_cons_zero, List.set_cons_succ]
        refine H_take (i := 11) (v := ?v42) rfl (by kernel_rfl) (by kernel_rfl) (by kernel_rfl) (fun _ _ _ h => h) (by rfl) ?hy42 (by assumption) ?_
        case hy42 => (intro w hSw; (try dsimp only at hSw); go_simp; first | done | with_reducible rfl | (trace_state; fail))
        try simp only [Act.put, List.setIfInBounds_toArray, List.set_cons_zero, List.set_cons_succ]
        refine H_call (i := 12) rfl (by kernel_rfl) (fun K hK => ?_)
        go_simp
        (go_at_call 81; (with_reducible refine Calls.mono (HC.out _) ?_); rintro e w5 ⟨rfl, rfl⟩)
        refine hK.out _ _ ?hS43 (fun hHeld => ?_)
        case hS43 => (try dsimp only); (first | (with_reducible exact vs_drew hS) | (with_reducible exact vs_keep (by with_reducible assumption) (by with_reducible assumption)) | (with_reducible assumption))
        clear hK K
        try simp only [Act.put, List.setIfInBounds_toArray, List.set_cons_zero, List.set_cons_succ]
        refine H_take (i := 13) (v := ?v44) rfl (by kernel_rfl) (by kernel_rfl) (by kernel_rfl) (fun _ _ _ h => h) (by rfl) ?hy44 (by assumption) ?_
        case hy44 => (intro w hSw; (try dsimp only at hSw); go_simp; first | done | with_reducible rfl | (trace_state; fail))
        try simp only [Act.put, List.setIfInBounds_toArray, List.set_cons_zero, List.set_cons_succ]
        refine H_take (i := 14) (v := ?v45) rfl (by kernel_rfl) (by kernel_rfl) (by kernel_rfl) (fun _ _ _ h => h) (by rfl) ?hy45 (by assumption) ?_
        case hy45 => (intro w hSw; (try dsimp only at hSw); go_simp; first | done | with_reducible rfl | (trace_state; fail))
        try simp only [Act.put, List.setIfInBounds_toArray, List.set_cons_zero, List.set_cons_succ]
        refine H_take (i := 15) (v := ?v46) rfl (by kernel_rfl) (by kernel_rfl) (by kernel_rfl) (fun _ _ _ h => h) (by rfl) ?hy46 (by assumption) ?_
        case hy46 => (intro w hSw; (try dsimp only at hSw); go_simp; first | done | with_reducible rfl | (trace_state; fail))
        try simp only [Act.put, List.setIfInBounds_toArray, List.set_cons_zero, List.set_cons_succ]
        refine H_take (i := 16) (v := ?v47) rfl (by kernel_rfl) (by kernel_rfl) (by kernel_rfl) (fun _ _ _ h => h) (by rfl) ?hy47 (by assumption) ?_
        case hy47 => (intro w hSw; (try dsimp only at hSw); go_simp; first | done | with_reducible rfl | (trace_state; fail))
        try simp only [Act.put, List.setIfInBounds_toArray, List.set_cons_zero, List.set_cons_succ]
        refine H_take (i := 19) (v := ?v48) rfl (by kernel_rfl) (by kernel_rfl) (by kernel_rfl) (fun _ _ _ h => h) (by rfl) ?hy48 (by assumption) ?_
        case hy48 => (intro w hSw; (try dsimp only at hSw); go_simp; first | done | with_reducible rfl | (trace_state; fail))
        try simp only [Act.put, List.setIfInBounds_toArray, List.set_cons_zero, List.set_cons_succ]
        refine H_call (i := 17) rfl (by kernel_rfl) (fun K hK => ?_)
        go_simp
        (go_at_call 80; (with_reducible refine Calls.mono (position_any _ _ _ _ _ _ _ _ _) ?_); rintro e w3 ⟨g3, rfl, hg3, s3, hb3⟩)
        refine hK.out _ _ ?hS49 (fun hHeld => ?_)
        case hS49 => (try dsimp only); (first | (with_reducible exact vs_drew hS) | (with_reducible exact vs_keep (by with_reducible assumption) (by with_reducible assumption)) | (with_reducible assumption))
        clear hK K
        try simp only [Act.put, List.setIfInBounds_toArray, List.set_cons_zero, List.set_cons_succ]
        refine H_call (i := 18) rfl (by kernel_rfl) (fun K hK => ?_)
        go_simp
        (go_at_call 60; (with_reducible refine Calls.mono (HW.out (by simp) _ _ ?_) ?_); (with_reducible exact And.right (And.right (by with_reducible assumption))); rintro e w6 ⟨rfl, hb6⟩)
        refine hK.out _ _ ?hS50 (fun hHeld => ?_)
        case hS50 => (try dsimp only); (first | (with_reducible exact vs_drew hS) | (with_reducible exact vs_keep (by with_reducible assumption) (by with_reducible assumption)) | (with_reducible assumption))
        clear hK K
        try simp only [Act.put, List.setIfInBounds_toArray, List.set_cons_zero, List.set_cons_succ]
        refine H_take (i := 20) (v := ?v51) rfl (by kernel_rfl) (by kernel_rfl) (by kernel_rfl) (fun _ _ _ h => h) (by rfl) ?hy51 (by assumption) ?_
        case hy51 => (intro w hSw; (try dsimp only at hSw); go_simp; first | done | with_reducible rfl | (trace_state; fail))
        try simp only [Act.put, List.setIfInBounds_toArray, List.set_cons_zero, List.set_cons_succ]
        refine H_take (i := 21) (v := ?v52) rfl (by kernel_rfl) (by kernel_rfl) (by kernel_rfl) (fun _ _ _ h => h) (by rfl) ?hy52 (by assumption) ?_
        case hy52 => (intro w hSw; (try dsimp only at hSw); go_simp; first | done | with_reducible rfl | (trace_state; fail))
        try simp only [Act.put, List.setIfInBounds_toArray, List.set_cons_zero, List.set_cons_succ]
        refine H_take (i := 22) (v := ?v53) rfl (by kernel_rfl) (by kernel_rfl) (by kernel_rfl) (fun _ _ _ h => h) (by rfl) ?hy53 (by assumption) ?_
        case hy53 => (intro w hSw; (try dsimp only at hSw); go_simp; first | done | with_reducible rfl | (trace_state; fail))
        try simp only [Act.put, List.setIfInBounds_toArray, List.set_cons_zero, List.set_cons_succ]
        refine wpAnyH_done (by kernel_rfl) ?_ _
        have hB := And.right (And.right hHeld)
        go_wp2_with fail
        go_ret
        exact ⟨rfl, hB⟩
      case pos =>
        obtain rfl : q = true := by rw [hE]; simp [hzi]
        subst hzi
        have hzb : (z == z) = true := by simp
        clear hE
        go_enter Try.func54, Try.ntmps54
        go_wp2_with fail
        have hS := hst.out
        refine wp_region_held_drew (S := (fun W => (W.cell? ⟨w.heap.size, 0, none⟩ = some (.int .i64 r.p) ∧ W.cell? ⟨w.heap.size, 1, none⟩ = some (.int .i64 r.s) ∧ W.cell? ⟨w.heap.size, 2, none⟩ = some (.bool r.st) ∧ W.cell? ⟨w.heap.size, 3, none⟩ = some (.bool r.sk) ∧ W.cell? ⟨w.heap.size, 4, none⟩ = some (.bool r.re) ∧ W.cell? ⟨w.heap.size, 5, none⟩ = some (.bool r.fe) ∧ W.cell? ⟨w.heap.size, 6, none⟩ = some (.bool r.ag) ∧ W.cell? ⟨w.heap.size, 7, none⟩ = some (.int .i64 r.ca) ∧ W.cell? ⟨w.heap.size, 8, none⟩ = some (.int .i64 r.sl) ∧ W.cell? ⟨w.heap.size, 9, none⟩ = some (.slice A n c)) ∧ (W.cell? ⟨w.heap.size + 1, 0, none⟩ = some (.bool true) ∧ W.cell? ⟨w.heap.size + 1, 1, none⟩ = some (.slice A1 m c1) ∧ W.cell? ⟨w.heap.size + 1, 2, none⟩ = some (.int .i64 p) ∧ W.cell? ⟨w.heap.size + 1, 3, none⟩ = some (.int .i64 d) ∧ W.cell? ⟨w.heap.size + 1, 4, none⟩ = some (.int .i64 v) ∧ W.cell? ⟨w.heap.size + 1, 5, none⟩ = some (.int .i64 b)) ∧ Below w.heap.size w W)) (by kernel_rfl) ?hS54 (fun hHeld => ?_)
        case hS54 => (try dsimp only); (first | (with_reducible exact vs_drew hS) | (with_reducible exact vs_keep (by with_reducible assumption) (by with_reducible assumption)) | (with_reducible assumption))
        refine H_take (i := 0) (v := ?v55) rfl (by kernel_rfl) (by kernel_rfl) (by kernel_rfl) (fun _ _ _ h => h) (by rfl) ?hy55 (by assumption) ?_
        case hy55 => (intro w hSw; (try dsimp only at hSw); go_simp; first | done | with_reducible rfl | (trace_state; fail))
        try simp only [Act.put, List.setIfInBounds_toArray, List.set_cons_zero, List.set_cons_succ]
        refine H_take (i := 1) (v := ?v56) rfl (by kernel_rfl) (by kernel_rfl) (by kernel_rfl) (fun _ _ _ h => h) (by rfl) ?hy56 (by assumption) ?_
        case hy56 => (intro w hSw; (try dsimp only at hSw); go_simp; first | done | with_reducible rfl | (trace_state; fail))
        try simp only [Act.put, List.setIfInBounds_toArray, List.set_cons_zero, List.set_cons_succ]
        refine H_take (i := 2) (v := ?v57) rfl (by kernel_rfl) (by kernel_rfl) (by kernel_rfl) (fun _ _ _ h => h) (by rfl) ?hy57 (by assumption) ?_
        case hy57 => (intro w hSw; (try dsimp only at hSw); go_simp; first | done | with_reducible rfl | (trace_state; fail))
        try simp only [Act.put, List.setIfInBounds_toArray, List.set_cons_zero, List.set_cons_succ]
        refine H_call (i := 3) rfl (by kernel_rfl) (fun K hK => ?_)
        go_simp
        (go_at_call 80; (with_reducible refine Calls.mono (position_any _ _ _ _ _ _ _ _ _) ?_); rintro e w3 ⟨g3, rfl, hg3, s3, hb3⟩)
        refine hK.out _ _ ?hS58 (fun hHeld => ?_)
        case hS58 => (try dsimp only); (first | (with_reducible exact vs_drew hS) | (with_reducible exact vs_keep (by with_reducible assumption) (by with_reducible assumption)) | (with_reducible assumption))
        clear hK K
        try simp only [Act.put, List.setIfInBounds_toArray, List.set_cons_zero, List.set_cons_succ]
        refine H_call (i := 4) rfl (by kernel_rfl) (fun K hK => ?_)
        go_simp
        (go_at_call 79; (with_reducible refine Calls.mono (HP.out _ _ ?_ ?_) ?_); (first | exact s3 | exact s3.later (by (repeat' (first | (with_reducible exact Below.refl _ _) | (with_reducible assumption) | (with_reducible refine Below.alloc ?_ ?_ _) | (with_reducible refine Below.drew ?_) | (with_reducible refine belowDrewN ?_ _) | (with_reducible refine Below.setCell ?_ ?_ _) | (with_reducible refine Below.via (by with_reducible assumption) ?_ ?_) | (with_reducible refine Below.viaD (by with_reducible assumption) ?_ ?_) | (with_reducible exact Below.size (by with_reducible assumption)) | go_size | (with_reducible refine Nat.le_trans ?_ (Below.size (by with_reducible assumption))) | (with_reducible refine Nat.le_trans ?_ (sizeAlloc _ _)) | (with_reducible refine Nat.le_trans ?_ (sizeSet _ _ _)) | (with_reducible refine Nat.le_trans ?_ (sizeDrew _)))))); (with_reducible exact And.right (And.right (by with_reducible assumption))); rintro e w4 ⟨rfl, hb4⟩)
        refine hK.out _ _ ?hS59 (fun hHeld => ?_)
        case hS59 => (try dsimp only); (first | (with_reducible exact vs_drew hS) | (with_reducible exact vs_keep (by with_reducible assumption) (by with_reducible assumption)) | (with_reducible assumption))
        clear hK K
        try simp only [Act.put, List.setIfInBounds_toArray, List.set_cons_zero, List.set_cons_succ]
        refine H_take (i := 5) (v := ?v60) rfl (by kernel_rfl) (by kernel_rfl) (by kernel_rfl) (fun _ _ _ h => h) (by rfl) ?hy60 (by assumption) ?_
        case hy60 => (intro w hSw; (try dsimp only at hSw); go_simp; first | done | with_reducible rfl | (trace_state; fail))
        try simp only [Act.put, List.setIfInBounds_toArray, List.set_cons_zero, List.set_cons_succ]
        refine H_take (i := 6) (v := ?v61) rfl (by kernel_rfl) (by kernel_rfl) (by kernel_rfl) (fun _ _ _ h => h) (by rfl) ?hy61 (by assumption) ?_
        case hy61 => (intro w hSw; (try dsimp only at hSw); go_simp; first | done | with_reducible rfl | (trace_state; fail))
        try simp only [Act.put, List.setIfInBounds_toArray, List.set_cons_zero, List.set_cons_succ]
        refine H_take (i := 7) (v := ?v62) rfl (by kernel_rfl) (by kernel_rfl) (by kernel_rfl) (fun _ _ _ h => h) (by rfl) ?hy62 (by assumption) ?_
        case hy62 => (intro w hSw; (try dsimp only at hSw); go_simp; first | done | with_reducible rfl | (trace_state; fail))
        try simp only [Act.put, List.setIfInBounds_toArray, List.set_cons_zero, List.set_cons_succ]
        refine H_take (i := 8) (v := ?v63) rfl (by kernel_rfl) (by kernel_rfl) (by kernel_rfl) (fun _ _ _ h => h) (by rfl) ?hy63 (by assumption) ?_
        case hy63 => (intro w hSw; (try dsimp only at hSw); go_simp; first | done | with_reducible rfl | (trace_state; fail))
        try simp only [Act.put, List.setIfInBounds_toArray, List.set_cons_zero, List.set_cons_succ]
        refine H_take (i := 9) (v := ?v64) rfl (by kernel_rfl) (by kernel_rfl) (by kernel_rfl) (fun _ _ _ h => h) (by rfl) ?hy64 (by assumption) ?_
        case hy64 => (intro w hSw; (try dsimp only at hSw); go_simp; first | done | with_reducible rfl | (trace_state; fail))
        try simp only [Act.put, List.setIfInBounds_toArray, List.set_cons_zero, List.set_cons_succ]
        refine H_take (i := 10) (v := ?v65) rfl (by kernel_rfl) (by kernel_rfl) (by kernel_rfl) (fun _ _ _ h => h) (by rfl) ?hy65 (by assumption) ?_
        case hy65 => (intro w hSw; (try dsimp only at hSw); go_simp; first | done | with_reducible rfl | (trace_state; fail))
        try simp only [Act.put, List.setIfInBounds_toArray, List.set_cons_zero, List.set_cons_succ]
        refine H_take (i := 11) (v := ?v66) rfl (by kernel_rfl) (by kernel_rfl) (by kernel_rfl) (fun _ _ _ h => h) (by rfl) ?hy66 (by assumption) ?_
        case hy66 => (intro w hSw; (try dsimp only at hSw); go_simp; first | done | with_reducible rfl | (trace_state; fail))
        try simp only [Act.put, List.setIfInBounds_toArray, List.set_cons_zero, List.set_cons_succ]
        refine H_call (i := 12) rfl (by kernel_rfl) (fun K hK => ?_)
        go_simp
        (go_at_call 81; (with_reducible refine Calls.mono (HC.out _) ?_); rintro e w5 ⟨rfl, rfl⟩)
        refine hK.out _ _ ?hS67 (fun hHeld => ?_)
        case hS67 => (try dsimp only); (first | (with_reducible exact vs_drew hS) | (with_reducible exact vs_keep (by with_reducible assumption) (by with_reducible assumption)) | (with_reducible assumption))
        clear hK K
        try simp only [Act.put, List.setIfInBounds_toArray, List.set_cons_zero, List.set_cons_succ]
        refine H_take (i := 13) (v := ?v68) rfl (by kernel_rfl) (by kernel_rfl) (by kernel_rfl) (fun _ _ _ h => h) (by rfl) ?hy68 (by assumption) ?_
        case hy68 => (intro w hSw; (try dsimp only at hSw); go_simp; first | done | with_reducible rfl | (trace_state; fail))
        try simp only [Act.put, List.setIfInBounds_toArray, List.set_cons_zero, List.set_cons_succ]
        refine H_take (i := 14) (v := ?v69) rfl (by kernel_rfl) (by kernel_rfl) (by kernel_rfl) (fun _ _ _ h => h) (by rfl) ?hy69 (by assumption) ?_
        case hy69 => (intro w hSw; (try dsimp only at hSw); go_simp; first | done | with_reducible rfl | (trace_state; fail))
        try simp only [Act.put, List.setIfInBounds_toArray, List.set_cons_zero, List.set_cons_succ]
        refine H_take (i := 15) (v := ?v70) rfl (by kernel_rfl) (by kernel_rfl) (by kernel_rfl) (fun _ _ _ h => h) (by rfl) ?hy70 (by assumption) ?_
        case hy70 => (intro w hSw; (try dsimp only at hSw); go_simp; first | done | with_reducible rfl | (trace_state; fail))
        try simp only [Act.put, List.setIfInBounds_toArray, List.set_cons_zero, List.set_cons_succ]
        refine H_take (i := 16) (v := ?v71) rfl (by kernel_rfl) (by kernel_rfl) (by kernel_rfl) (fun _ _ _ h => h) (by rfl) ?hy71 (by assumption) ?_
        case hy71 => (intro w hSw; (try dsimp only at hSw); go_simp; first | done | with_reducible rfl | (trace_state; fail))
        try simp only [Act.put, List.setIfInBounds_toArray, List.set_cons_zero, List.set_cons_succ]
        refine H_take (i := 19) (v := ?v72) rfl (by kernel_rfl) (by kernel_rfl) (by kernel_rfl) (fun _ _ _ h => h) (by rfl) ?hy72 (by assumption) ?_
        case hy72 => (intro w hSw; (try dsimp only at hSw); go_simp; first | done | with_reducible rfl | (trace_state; fail))
        try simp only [Act.put, List.setIfInBounds_toArray, List.set_cons_zero, List.set_cons_succ]
        refine H_call (i := 17) rfl (by kernel_rfl) (fun K hK => ?_)
        go_simp
        (go_at_call 80; (with_reducible refine Calls.mono (position_any _ _ _ _ _ _ _ _ _) ?_); rintro e w3 ⟨g3, rfl, hg3, s3, hb3⟩)
        refine hK.out _ _ ?hS73 (fun hHeld => ?_)
        case hS73 => (try dsimp only); (first | (with_reducible exact vs_drew hS) | (with_reducible exact vs_keep (by with_reducible assumption) (by with_reducible assumption)) | (with_reducible assumption))
        clear hK K
        try simp only [Act.put, List.setIfInBounds_toArray, List.set_cons_zero, List.set_cons_succ]
        refine H_call (i := 18) rfl (by kernel_rfl) (fun K hK => ?_)
        go_simp
        (go_at_call 60; (with_reducible refine Calls.mono (HW.out (by simp) _ _ ?_) ?_); (with_reducible exact And.right (And.right (by with_reducible assumption))); rintro e w6 ⟨rfl, hb6⟩)
        refine hK.out _ _ ?hS74 (fun hHeld => ?_)
        case hS74 => (try dsimp only); (first | (with_reducible exact vs_drew hS) | (with_reducible exact vs_keep (by with_reducible assumption) (by with_reducible assumption)) | (with_reducible assumption))
        clear hK K
        try simp only [Act.put, List.setIfInBounds_toArray, List.set_cons_zero, List.set_cons_succ]
        refine H_take (i := 20) (v := ?v75) rfl (by kernel_rfl) (by kernel_rfl) (by kernel_rfl) (fun _ _ _ h => h) (by rfl) ?hy75 (by assumption) ?_
        case hy75 => (intro w hSw; (try dsimp only at hSw); go_simp; first | done | with_reducible rfl | (trace_state; fail))
        try simp only [Act.put, List.setIfInBounds_toArray, List.set_cons_zero, List.set_cons_succ]
        refine H_take (i := 21) (v := ?v76) rfl (by kernel_rfl) (by kernel_rfl) (by kernel_rfl) (fun _ _ _ h => h) (by rfl) ?hy76 (by assumption) ?_
        case hy76 => (intro w hSw; (try dsimp only at hSw); go_simp; first | done | with_reducible rfl | (trace_state; fail))
        try simp only [Act.put, List.setIfInBounds_toArray, List.set_cons_zero, List.set_cons_succ]
        refine H_take (i := 22) (v := ?v77) rfl (by kernel_rfl) (by kernel_rfl) (by kernel_rfl) (fun _ _ _ h => h) (by rfl) ?hy77 (by assumption) ?_
        case hy77 => (intro w hSw; (try dsimp only at hSw); go_simp; first | done | with_reducible rfl | (trace_state; fail))
        try simp only [Act.put, List.setIfInBounds_toArray, List.set_cons_zero, List.set_cons_succ]
        refine wpAnyH_done (by kernel_rfl) ?_ _
        have hB := And.right (And.right hHeld)
        go_wp2_with fail
        go_ret
        exact ⟨rfl, hB⟩
end Go.Proofs.Ytpcenpedbdenmaa
