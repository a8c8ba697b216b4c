/- Valid slots and memories, by the program. Conditions: lengths below 2^20. -/
import Derived.Test.YtpcenpedbdenmaaSlot3
namespace Go.Proofs.Ytpcenpedbdenmaa
set_option linter.unusedSimpArgs false
set_option linter.unusedVariables false
open Go.RowKit Go.WideShapes Go.ChangeShapes Go.Deep

def okCont (d v b : Int) : Bool := inB d 1 8 && inB v (-96) 96 && inB b 0 2
def keyD (s : SlotR) : PositionD := ⟨s.ps, [0, 0], s.p⟩
def okSlot (r : Ru) (n : Nat) (i : Int) (s : SlotR) : Bool := if s.u then okPos r (keyD s) && okCont s.d s.v s.b && decide (placeR s.ps s.p n = i) else decide (s.ps.length = 0) && decide (s.p = 0) && decide (s.d = 0) && decide (s.v = 0) && decide (s.b = 0)
theorem okPos_parts {r : Ru} {d : PositionD} (h : okPos r d = true) : okL d.pits = true ∧ 0 ≤ d.player ∧ d.player ≤ 1 := by
  simp only [okPos, Bool.and_eq_true] at h
  have := inB_of h.1.1.1.2
  exact ⟨h.1.1.2, this.1, this.2⟩
def KeyPost (A : Option Addr) (m c : Nat) (p : Int) (w : World) (e : Ending) (w' : World) : Prop := ∃ g, e = .returned (.agg #[.slice A m c, .slice (some ⟨g, 0, none⟩) 2 2, .int .i64 p]) ∧ w.heap.size ≤ g ∧ Sl w' w'.heap.size 1 (some ⟨g, 0, none⟩) 2 (([0, 0] : List Int).map (Value.int .i64)) ∧ Below w.heap.size w w'
theorem zeros_sl {w : World} {g : Nat} {t : TypeId} (h : Blk w g t #[.int .i64 0, .int .i64 0]) : Sl w w.heap.size 1 (some ⟨g, 0, none⟩) 2 (([0, 0] : List Int).map (Value.int .i64)) := Blk.sl (zs := [0, 0]) (rest := []) h rfl
set_option maxHeartbeats 1000000 in
theorem position_any (u : Bool) (A : Option Addr) (m c : Nat) (p d v b : Int) (w : World) : Calls Try.prog 80 #[.agg #[.bool u, .slice A m c, .int .i64 p, .int .i64 d, .int .i64 v, .int .i64 b]] w (KeyPost A m c p w) := by
  go_enter Try.func80, Try.ntmps80
  go_wp2_with fail
  go_returns
  exact ⟨_, rfl, by (repeat' (first | (with_reducible exact Below.refl _ _) | (with_reducible assumption) | (with_reducible refine Below.alloc ?_ ?_ _) | (with_reducible refine Below.drew ?_) | (with_reducible refine belowDrewN ?_ _) | (with_reducible refine Below.setCell ?_ ?_ _) | (with_reducible refine Below.via (by with_reducible assumption) ?_ ?_) | (with_reducible refine Below.viaD (by with_reducible assumption) ?_ ?_) | (with_reducible exact Below.size (by with_reducible assumption)) | go_size | (with_reducible refine Nat.le_trans ?_ (Below.size (by with_reducible assumption))) | (with_reducible refine Nat.le_trans ?_ (sizeAlloc _ _)) | (with_reducible refine Nat.le_trans ?_ (sizeSet _ _ _)) | (with_reducible refine Nat.le_trans ?_ (sizeDrew _)))), zeros_sl (Blk.new' (by simp)), by (repeat' (first | (with_reducible exact Below.refl _ _) | (with_reducible assumption) | (with_reducible refine Below.alloc ?_ ?_ _) | (with_reducible refine Below.drew ?_) | (with_reducible refine belowDrewN ?_ _) | (with_reducible refine Below.setCell ?_ ?_ _) | (with_reducible refine Below.via (by with_reducible assumption) ?_ ?_) | (with_reducible refine Below.viaD (by with_reducible assumption) ?_ ?_) | (with_reducible exact Below.size (by with_reducible assumption)) | go_size | (with_reducible refine Nat.le_trans ?_ (Below.size (by with_reducible assumption))) | (with_reducible refine Nat.le_trans ?_ (sizeAlloc _ _)) | (with_reducible refine Nat.le_trans ?_ (sizeSet _ _ _)) | (with_reducible refine Nat.le_trans ?_ (sizeDrew _))))⟩
theorem validContents_any (d v b : Int) (w : World) : Calls Try.prog 81 #[.int .i64 d, .int .i64 v, .int .i64 b] w fun e w' => e = .returned (.bool (okCont d v b)) ∧ w = w' := by
  obtain ⟨q, hq⟩ : ∃ q, okCont d v b = q := ⟨_, rfl⟩
  have HQ := Lib.hid hq
  clear hq
  rw [HQ.out]
  go_enter Try.func81, Try.ntmps81
  go_wp2_with (go_at_call 44; refine (between_any _ _ _ _).mono ?_; rintro e w_ ⟨rfl, rfl⟩)
  all_goals
    have h1 := HQ.out
    simp only [okCont] at h1
    go_ret
    subst h1
    exact ⟨by simp [*], rfl⟩
end Go.Proofs.Ytpcenpedbdenmaa
