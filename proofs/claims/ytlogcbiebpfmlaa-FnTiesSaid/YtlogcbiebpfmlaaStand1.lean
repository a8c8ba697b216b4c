/- Standings: the program's two closures over the rows. Conditions: bounds. -/
import Derived.Test.YtlogcbiebpfmlaaDrop2
import Derived.Test.YtlogcbiebpfmlaaRowM
import Derived.Test.YtlogcbiebpfmlaaRowS
namespace Go.Proofs.Ytlogcbiebpfmlaa
set_option linter.unusedSimpArgs false
set_option linter.unusedVariables false
open Go.RowKit

/-- The rows of a table, one after the other. -/
def flatF (n : Nat) (F : Nat → Nat → Int) : List Value := (List.range (n * 6)).map fun j => .int .i64 (F (j / 6) (j % 6))
theorem flatF_len (n : Nat) (F : Nat → Nat → Int) : (flatF n F).length = n * 6 := by simp [flatF]
theorem flatF_at {n d c : Nat} (F : Nat → Nat → Int) (hd : d < n) (hc : c < 6) : (flatF n F).toArray[d * 6 + c]? = some (.int .i64 (F d c)) := by
  have h : d * 6 + c < n * 6 := by omega
  simp only [flatF, List.getElem?_toArray, List.getElem?_map, List.getElem?_range h, Option.map_some]
  rw [show (d * 6 + c) / 6 = d from by omega, show (d * 6 + c) % 6 = c from by omega]
def upF (F : Nat → Nat → Int) (d c : Nat) (v : Int) : Nat → Nat → Int := fun a b => if a = d ∧ b = c then v else F a b
theorem flatF_set {n d c : Nat} (F : Nat → Nat → Int) (hd : d < n) (hc : c < 6) (v : Int) : (flatF n F).toArray.setIfInBounds (d * 6 + c) (.int .i64 v) = (flatF n (upF F d c v)).toArray := by
  rw [List.setIfInBounds_toArray]
  congr 1
  apply List.ext_getElem?
  intro j
  rw [List.getElem?_set]
  by_cases hj : j < n * 6
  · simp only [flatF, List.length_map, List.length_range, List.getElem?_map, List.getElem?_range hj, Option.map_some, upF]
    by_cases he : d * 6 + c = j
    · rw [if_pos he, if_pos (by omega), if_pos (by omega)]
    · rw [if_neg he, if_neg (by omega)]
  · rw [if_neg (by omega), List.getElem?_eq_none (by rw [flatF_len]; omega), List.getElem?_eq_none (by rw [flatF_len]; omega)]
/-- A score is added to a row. -/
def addF (F : Nat → Nat → Int) (d : Nat) (s : Int) : Nat → Nat → Int := if s = 2 then upF (upF F d 1 (F d 1 + s)) d 2 (F d 2 + 1) else upF F d 1 (F d 1 + s)
set_option maxRecDepth 100000 in
set_option maxHeartbeats 2000000 in
theorem add_any (n d g v : Nat) (F : Nat → Nat → Int) (s : Int) (w : World) (hv : w.cell? ⟨v, 0, none⟩ = some (.slice (some ⟨g, 0, none⟩) n n)) (hb : Blk w g 54 (flatF n F).toArray) (hne : v ≠ g) (hd : d < n) (hn : n ≤ 12) (h0 : 0 ≤ s) (h2 : s ≤ 2) (f1 : 0 ≤ F d 1 ∧ F d 1 ≤ 1000000000) (f2 : 0 ≤ F d 2 ∧ F d 2 ≤ 1000000000) :
    Calls Try.prog 38 #[.int .i64 d, .int .i64 s, .pointer (some ⟨v, 0, none⟩)] w fun e w' => e = .returned (.tuple #[]) ∧ Blk w' g 54 (flatF n (addF F d s)).toArray ∧ w.grownBy w' (some g) := by
  have c1 := (hb.cell (d * 6 + 1)).trans (flatF_at F hd (by omega))
  have c2 := (hb.cell (d * 6 + 2)).trans (flatF_at F hd (by omega))
  have k1 := hb.free (d * 6 + 1)
  have k2 := hb.free (d * 6 + 2)
  obtain ⟨a1, b1⟩ := f1
  obtain ⟨a2, b2⟩ := f2
  have HB := Lib.hid hb
  clear hb
  by_cases hs : s = 2
  case pos =>
    have hse : (s == 2) = true := beq_iff_eq.2 hs
    have HA : Hid (addF F d s = upF (upF F d 1 (F d 1 + s)) d 2 (F d 2 + 1)) := by unfold Hid; rw [addF, if_pos hs]
    clear hs
    go_enter Try.func38, Try.ntmps38
    go_wp2_with fail
    go_end0
    refine ⟨rfl, ?_, only_setCell (p := ⟨g, d * 6 + 2, none⟩) (only_setCell (p := ⟨g, d * 6 + 1, none⟩) (World.grownBy.refl _ _) (.inl rfl) _) (.inl rfl) _⟩
    rw [HA.out, ← flatF_set _ hd (by omega), ← flatF_set _ hd (by omega)]
    exact Blk.set (Blk.set HB.out (d * 6 + 1) _) (d * 6 + 2) _
  case neg =>
    have hse : (s == 2) = false := beq_eq_false_iff_ne.2 hs
    have HA : Hid (addF F d s = upF F d 1 (F d 1 + s)) := by unfold Hid; rw [addF, if_neg hs]
    clear hs
    go_enter Try.func38, Try.ntmps38
    go_wp2_with fail
    go_end0
    refine ⟨rfl, ?_, only_setCell (p := ⟨g, d * 6 + 1, none⟩) (World.grownBy.refl _ _) (.inl rfl) _⟩
    rw [HA.out, ← flatF_set _ hd (by omega)]
    exact Blk.set HB.out (d * 6 + 1) _
theorem grown_drew {w w' : World} {row : Option Nat} (h : w.grownBy w' row) : w.grownBy w'.drew row := ⟨h.os, h.tape, h.output, h.size, h.block⟩
/-- A game is counted for a row. -/
def playF (F : Nat → Nat → Int) (d o : Nat) (s : Int) : Nat → Nat → Int := upF (upF (upF F d 3 (F d 3 + 1)) d 4 (F d 4 + F o 1)) d 5 (F d 5 + F o 1 * s)
set_option maxRecDepth 100000 in
set_option maxHeartbeats 2000000 in
theorem play_any (n d o g v : Nat) (F : Nat → Nat → Int) (s : Int) (w : World) (hv : w.cell? ⟨v, 0, none⟩ = some (.slice (some ⟨g, 0, none⟩) n n)) (hb : Blk w g 54 (flatF n F).toArray) (hne : v ≠ g) (hd : d < n) (ho : o < n) (hn : n ≤ 12) (h0 : 0 ≤ s) (h2 : s ≤ 2) (f1 : 0 ≤ F o 1 ∧ F o 1 ≤ 1000000) (f3 : 0 ≤ F d 3 ∧ F d 3 ≤ 1000000000) (f4 : 0 ≤ F d 4 ∧ F d 4 ≤ 1000000000) (f5 : 0 ≤ F d 5 ∧ F d 5 ≤ 1000000000) :
    Calls Try.prog 39 #[.int .i64 d, .int .i64 o, .int .i64 s, .pointer (some ⟨v, 0, none⟩)] w fun e w' => e = .returned (.tuple #[]) ∧ Blk w' g 54 (flatF n (playF F d o s)).toArray ∧ w.grownBy w' (some g) := by
  have c1 := (hb.cell (o * 6 + 1)).trans (flatF_at F ho (by omega))
  have c3 := (hb.cell (d * 6 + 3)).trans (flatF_at F hd (by omega))
  have c4 := (hb.cell (d * 6 + 4)).trans (flatF_at F hd (by omega))
  have c5 := (hb.cell (d * 6 + 5)).trans (flatF_at F hd (by omega))
  have k3 := hb.free (d * 6 + 3)
  have k4 := hb.free (d * 6 + 4)
  have k5 := hb.free (d * 6 + 5)
  obtain ⟨a1, b1⟩ := f1
  obtain ⟨a3, b3⟩ := f3
  obtain ⟨a4, b4⟩ := f4
  obtain ⟨a5, b5⟩ := f5
  have HB := Lib.hid hb
  clear hb
  have HA : Hid (playF F d o s = upF (upF (upF F d 3 (F d 3 + 1)) d 4 (F d 4 + F o 1)) d 5 (F d 5 + F o 1 * s)) := rfl
  revert c1 c3 c4 c5 a1 b1 a3 b3 a4 b4 a5 b5 HA
  generalize F o 1 = x1
  generalize F d 3 = x3
  generalize F d 4 = x4
  generalize F d 5 = x5
  intro c1 c3 c4 c5 a1 b1 a3 b3 a4 b4 a5 b5 HA
  have hm0 : 0 ≤ x1 * s := Int.mul_nonneg a1 h0
  have hm1 : x1 * s ≤ 2000000 := by
    have := Int.mul_le_mul b1 h2 h0 (by omega : (0 : Int) ≤ 1000000)
    omega
  have hw1 : IntKind.i64.wrap (x4 + x1) = x4 + x1 := IntWalk.i64_in _ (by omega)
  have hw2 : IntKind.i64.wrap (x1 * s) = x1 * s := IntWalk.i64_in _ (by omega)
  have hw3 : IntKind.i64.wrap (x5 + x1 * s) = x5 + x1 * s := IntWalk.i64_in _ (by omega)
  have n1 : o * 6 + 1 ≠ d * 6 + 3 := by omega
  have n2 : o * 6 + 1 ≠ d * 6 + 4 := by omega
  go_enter Try.func39, Try.ntmps39
  go_wp2_with fail
  go_region
  go_wp2_with fail
  go_region
  go_wp2_with fail
  go_end0
  refine ⟨rfl, ?_, grown_drew (grown_drew (only_setCell (p := ⟨g, d * 6 + 5, none⟩) (only_setCell (p := ⟨g, d * 6 + 4, none⟩) (only_setCell (p := ⟨g, d * 6 + 3, none⟩) (World.grownBy.refl _ _) (.inl rfl) _) (.inl rfl) _) (.inl rfl) _))⟩
  rw [HA.out, ← flatF_set _ hd (by omega), ← flatF_set _ hd (by omega), ← flatF_set _ hd (by omega)]
  exact Blk.set (Blk.set (Blk.set HB.out (d * 6 + 3) _) (d * 6 + 4) _) (d * 6 + 5) _
end Go.Proofs.Ytlogcbiebpfmlaa
