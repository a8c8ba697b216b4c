/- A player after some games, by the reference. Conditions: sums of at most 198000. -/
import Derived.Test.YtaeeijjejkohjaaMove
import Derived.Deep.RegionHeld3
namespace Go.Proofs.Ytaeeijjejkohjaa
set_option linter.unusedSimpArgs false
set_option linter.unusedVariables false
open Go.RowKit

theorem boxed2' (w : World) (o : Obj) : Below w.heap.size w (w.alloc o) := Below.alloc (Below.refl _ _) (Nat.le_refl _) o
theorem below_b2 {w w' : World} {o o' : Obj} (h : Below ((w.alloc o).alloc o').heap.size ((w.alloc o).alloc o') w') : Below w.heap.size w w' := Below.via h (Below.alloc (Below.alloc (Below.refl _ _) (Nat.le_refl _) _) (by simp) _) (by simp; omega)
theorem box2_keep {W0 W W' : World} {g : Nat} {u1 u2 : Value} (h : (W.cell? ⟨g, 0, none⟩ = some u1 ∧ W.cell? ⟨g, 1, none⟩ = some u2) ∧ Below W0.heap.size W0 W) (hb : Below W.heap.size W W') : (W'.cell? ⟨g, 0, none⟩ = some u1 ∧ W'.cell? ⟨g, 1, none⟩ = some u2) ∧ Below W0.heap.size W0 W' := by
  obtain ⟨⟨a0, a1⟩, hB⟩ := h
  have l0 := cell_lt a0
  exact ⟨⟨(hb.cell (p := ⟨_, _, none⟩) l0).trans a0, (hb.cell (p := ⟨_, _, none⟩) l0).trans a1⟩, Below.via hb hB hB.size⟩
theorem box2_drew {W0 W : World} {g : Nat} {u1 u2 : Value} (h : (W.cell? ⟨g, 0, none⟩ = some u1 ∧ W.cell? ⟨g, 1, none⟩ = some u2) ∧ Below W0.heap.size W0 W) : (W.drew.cell? ⟨g, 0, none⟩ = some u1 ∧ W.drew.cell? ⟨g, 1, none⟩ = some u2) ∧ Below W0.heap.size W0 W.drew := ⟨h.1, Below.drew h.2⟩
set_option maxHeartbeats 2000000 in
theorem l25Move_any (a b s g : Int) (ha : 0 ≤ a) (ha2 : a ≤ 4000) (hb : 0 ≤ b) (hb2 : b ≤ 1000000) (hs : -198000 ≤ s) (hs2 : s ≤ 198000) (hg : 0 ≤ g) (hg2 : g ≤ 200) (w : World) :
    Calls Try.prog 41 #[.agg #[.int .i64 a, .int .i64 b], .int .i64 s, .int .i64 g] w fun e w' => e = .returned (.agg #[.int .i64 (mvA a b s), .int .i64 (mvB b g)]) ∧ Below w.heap.size w w' := by
  have HS := Lib.hid (fun (w : World) => l25Step_any a b w)
  obtain ⟨t1, t2⟩ := total_bd (a := a) (b := b) hs hs2
  have HA : Hid (mvA a b s = max 0 (min 4000 (a + rnd (stepR a b * s)))) := rfl
  revert HS t1 t2 HA
  generalize stepR a b = st
  intro HS t1 t2 HA
  obtain ⟨t, ht⟩ : ∃ t, st * s = t := ⟨_, rfl⟩
  rw [ht] at t1 t2 HA
  have HC := Lib.hid (fun w => l25Round_any t (by omega) (by omega) w)
  obtain ⟨x1, x2⟩ := rnd_bd (t := t) (by omega) (by omega)
  revert HA HC x1 x2
  generalize rnd t = x
  intro HA HC x1 x2
  have hw1 : IntKind.i64.wrap t = t := IntWalk.i64_in _ (by omega)
  have hw2 : IntKind.i64.wrap (a + x) = a + x := IntWalk.i64_in _ (by omega)
  have K0 := Blk.new' (w := w.alloc (.cells #[.int .i64 a, .int .i64 b] 24)) (g := w.heap.size + 1) (t := 24) (cs := #[.int .i64 0, .int .i64 0]) (by simp)
  have KA := (Blk.new w 24 #[.int .i64 a, .int .i64 b]).later (boxed2' _ (.cells #[.int .i64 0, .int .i64 0] 24))
  have hS0 : (((w.alloc (.cells #[.int .i64 a, .int .i64 b] 24)).alloc (.cells #[.int .i64 0, .int .i64 0] 24)).cell? ⟨w.heap.size, 0, none⟩ = some (.int .i64 a) ∧ ((w.alloc (.cells #[.int .i64 a, .int .i64 b] 24)).alloc (.cells #[.int .i64 0, .int .i64 0] 24)).cell? ⟨w.heap.size, 1, none⟩ = some (.int .i64 b)) ∧ Below ((w.alloc (.cells #[.int .i64 a, .int .i64 b] 24)).alloc (.cells #[.int .i64 0, .int .i64 0] 24)).heap.size ((w.alloc (.cells #[.int .i64 a, .int .i64 b] 24)).alloc (.cells #[.int .i64 0, .int .i64 0] 24)) ((w.alloc (.cells #[.int .i64 a, .int .i64 b] 24)).alloc (.cells #[.int .i64 0, .int .i64 0] 24)) := ⟨⟨KA.cell 0, KA.cell 1⟩, Below.refl _ _⟩
  have HK := Lib.hid K0
  clear K0 KA
  go_enter Try.func41, Try.ntmps41
  go_wp2_with fail
  go_region_held3 (fun W => (W.cell? ⟨w.heap.size, 0, none⟩ = some (.int .i64 a) ∧ W.cell? ⟨w.heap.size, 1, none⟩ = some (.int .i64 b)) ∧ Below ((w.alloc (.cells #[.int .i64 a, .int .i64 b] 24)).alloc (.cells #[.int .i64 0, .int .i64 0] 24)).heap.size ((w.alloc (.cells #[.int .i64 a, .int .i64 b] 24)).alloc (.cells #[.int .i64 0, .int .i64 0] 24)) W) (first | (with_reducible exact box2_drew hS0) | (with_reducible exact box2_keep (by with_reducible assumption) (by with_reducible assumption)) | (with_reducible assumption)) (first
    | (go_at_call 61; (with_reducible refine Calls.mono (HS.out _) ?_); rintro e w3 ⟨rfl, hb3⟩)
    | (go_at_call 67; (with_reducible refine Calls.mono (HC.out _) ?_); rintro e w_ ⟨rfl, rfl⟩)
    | (go_at_call 66; (with_reducible refine Calls.mono (l00Min_any _ _ _) ?_); rintro e w_ ⟨rfl, rfl⟩)
    | (go_at_call 65; (with_reducible refine Calls.mono (l00Max_any _ _ _) ?_); rintro e w_ ⟨rfl, rfl⟩))
  all_goals
    have hS3 : (w3.cell? ⟨w.heap.size, 0, none⟩ = some (.int .i64 a) ∧ w3.cell? ⟨w.heap.size, 1, none⟩ = some (.int .i64 b)) ∧ Below ((w.alloc (.cells #[.int .i64 a, .int .i64 b] 24)).alloc (.cells #[.int .i64 0, .int .i64 0] 24)).heap.size ((w.alloc (.cells #[.int .i64 a, .int .i64 b] 24)).alloc (.cells #[.int .i64 0, .int .i64 0] 24)) w3 := by with_reducible assumption
    obtain ⟨⟨c0, c1⟩, hB⟩ := hS3
    have K3 := HK.out.later hB
    obtain ⟨hq0, hq1⟩ := res_cells K3
    have k0 := K3.cell 0
    have k1 := K3.cell 1
    have f0 := K3.free 0
    have f1 := K3.free 1
    have HB := Lib.hid hB
    clear hS0 hB K3
    go_wp2_with (go_at_call 66; refine (l00Min_any _ _ _).mono ?_; rintro e w_ ⟨rfl, rfl⟩)
    (try simp only [Exit.inBlock, Exit.then])
    refine bodyPost_ret (by simp [results, Try.results41, go_sem, hq0, hq1]; try rfl) rfl ?_
    have hB := HB.out
    have hB0 := below_b2 hB
    exact ⟨ret_agg (by rw [HA.out]) (by unfold mvB; rfl), by (repeat' (first | (with_reducible exact Below.refl _ _) | (with_reducible assumption) | (with_reducible refine Below.alloc ?_ ?_ _) | (with_reducible refine Below.drew ?_) | (with_reducible refine belowDrewN ?_ _) | (with_reducible refine Below.setCell ?_ ?_ _) | (with_reducible refine Below.via (by with_reducible assumption) ?_ ?_) | (with_reducible refine Below.viaD (by with_reducible assumption) ?_ ?_) | (with_reducible exact Below.size (by with_reducible assumption)) | go_size | (with_reducible refine Nat.le_trans ?_ (Below.size (by with_reducible assumption))) | (with_reducible refine Nat.le_trans ?_ (sizeAlloc _ _)) | (with_reducible refine Nat.le_trans ?_ (sizeSet _ _ _)) | (with_reducible refine Nat.le_trans ?_ (sizeDrew _))))⟩
end Go.Proofs.Ytaeeijjejkohjaa
