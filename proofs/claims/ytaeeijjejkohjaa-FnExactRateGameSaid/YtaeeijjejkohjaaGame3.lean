/- RateGame: the law. No conditions. -/
import Derived.Test.YtaeeijjejkohjaaGame2
import Derived.Test.YtaeeijjejkohjaaRatedS
import Derived.Deep.RegionHeld3
namespace Go.Proofs.Ytaeeijjejkohjaa
set_option linter.unusedSimpArgs false
set_option linter.unusedVariables false
open Go.RowKit

theorem toRated_lit (a0 a1 : Int) (w : World) : Calls Try.prog 8 #[.agg #[.int .i64 a0, .int .i64 a1]] w fun e w' => e = .returned (.agg #[.int .i64 a0, .int .i64 a1]) ∧ w' = ((w.alloc (.cells #[.int .i64 a0, .int .i64 a1] 23)).alloc (.cells #[.int .i64 a0, .int .i64 a1] 24)).alloc (.cells #[.int .i64 a0, .int .i64 a1] 24) := by
  go_enter Try.func8, Try.ntmps8
  go_wp2
  go_returns
  exact ⟨rfl, rfl⟩
theorem two_keep {W W' : World} {g : Nat} {u0 u1 : Value} (h : (W.cell? ⟨g, 0, none⟩ = some u0 ∧ W.cell? ⟨g, 1, none⟩ = some u1)) (hb : Below W.heap.size W W') : (W'.cell? ⟨g, 0, none⟩ = some u0 ∧ W'.cell? ⟨g, 1, none⟩ = some u1) :=
  ⟨(hb.cell (p := ⟨_, _, none⟩) (cell_lt h.1)).trans h.1, (hb.cell (p := ⟨_, _, none⟩) (cell_lt h.1)).trans h.2⟩
theorem c1_keep {W W' : World} {g g' : Nat} {u0 u1 u2 u3 : Value} (hb : Below W.heap.size W W') (h : (W.cell? ⟨g, 0, none⟩ = some u0 ∧ W.cell? ⟨g, 1, none⟩ = some u1) ∧ (W.cell? ⟨g', 0, none⟩ = some u2 ∧ W.cell? ⟨g', 1, none⟩ = some u3)) : (W'.cell? ⟨g, 0, none⟩ = some u0 ∧ W'.cell? ⟨g, 1, none⟩ = some u1) ∧ (W'.cell? ⟨g', 0, none⟩ = some u2 ∧ W'.cell? ⟨g', 1, none⟩ = some u3) := ⟨two_keep h.1 hb, two_keep h.2 hb⟩
theorem c1_alloc {W : World} {g g' : Nat} {u0 u1 u2 u3 : Value} (h : (W.cell? ⟨g, 0, none⟩ = some u0 ∧ W.cell? ⟨g, 1, none⟩ = some u1) ∧ (W.cell? ⟨g', 0, none⟩ = some u2 ∧ W.cell? ⟨g', 1, none⟩ = some u3)) (o : Obj) : ((W.alloc o).cell? ⟨g, 0, none⟩ = some u0 ∧ (W.alloc o).cell? ⟨g, 1, none⟩ = some u1) ∧ ((W.alloc o).cell? ⟨g', 0, none⟩ = some u2 ∧ (W.alloc o).cell? ⟨g', 1, none⟩ = some u3) := ⟨two_keep h.1 (boxed2' _ _), two_keep h.2 (boxed2' _ _)⟩
theorem c1_drew {W : World} {g g' : Nat} {u0 u1 u2 u3 : Value} (h : ((W.cell? ⟨g, 0, none⟩ = some u0 ∧ W.cell? ⟨g, 1, none⟩ = some u1) ∧ (W.cell? ⟨g', 0, none⟩ = some u2 ∧ W.cell? ⟨g', 1, none⟩ = some u3))) : ((W.drew.cell? ⟨g, 0, none⟩ = some u0 ∧ W.drew.cell? ⟨g, 1, none⟩ = some u1) ∧ (W.drew.cell? ⟨g', 0, none⟩ = some u2 ∧ W.drew.cell? ⟨g', 1, none⟩ = some u3)) := h
theorem c1_set {W : World} {g g' b o : Nat} {u0 u1 u2 u3 : Value} (h : ((W.cell? ⟨g, 0, none⟩ = some u0 ∧ W.cell? ⟨g, 1, none⟩ = some u1) ∧ (W.cell? ⟨g', 0, none⟩ = some u2 ∧ W.cell? ⟨g', 1, none⟩ = some u3))) (u : Value) (n1 : b ≠ g) (n2 : b ≠ g') : (((W.setCell ⟨b, o, none⟩ u).cell? ⟨g, 0, none⟩ = some u0 ∧ (W.setCell ⟨b, o, none⟩ u).cell? ⟨g, 1, none⟩ = some u1) ∧ ((W.setCell ⟨b, o, none⟩ u).cell? ⟨g', 0, none⟩ = some u2 ∧ (W.setCell ⟨b, o, none⟩ u).cell? ⟨g', 1, none⟩ = some u3)) := by
  have e : ∀ q k : Nat, b ≠ q → (W.setCell ⟨b, o, none⟩ u).cell? ⟨q, k, none⟩ = W.cell? ⟨q, k, none⟩ := fun q k hq => World.cell?_setCell_other _ _ _ _ (fun e => by injection e with e1; exact hq e1)
  exact ⟨⟨(e g 0 n1).trans h.1.1, (e g 1 n1).trans h.1.2⟩, ⟨(e g' 0 n2).trans h.2.1, (e g' 1 n2).trans h.2.2⟩⟩
theorem two_new (W : World) (t : TypeId) (u0 u1 : Value) : ((W.alloc (.cells #[u0, u1] t)).cell? ⟨W.heap.size, 0, none⟩ = some u0 ∧ (W.alloc (.cells #[u0, u1] t)).cell? ⟨W.heap.size, 1, none⟩ = some u1) := ⟨(Blk.new W t #[u0, u1]).cell 0, (Blk.new W t #[u0, u1]).cell 1⟩
theorem c2_keep {W W' : World} {ga ka gb kb : Nat} {ua0 ua1 ua2 ua3 ub0 ub1 ub2 ub3 : Value} (hb : Below W.heap.size W W') (h : ((W.cell? ⟨ga, 0, none⟩ = some ua0 ∧ W.cell? ⟨ga, 1, none⟩ = some ua1) ∧ (W.cell? ⟨ka, 0, none⟩ = some ua2 ∧ W.cell? ⟨ka, 1, none⟩ = some ua3)) ∧ ((W.cell? ⟨gb, 0, none⟩ = some ub0 ∧ W.cell? ⟨gb, 1, none⟩ = some ub1) ∧ (W.cell? ⟨kb, 0, none⟩ = some ub2 ∧ W.cell? ⟨kb, 1, none⟩ = some ub3))) : ((W'.cell? ⟨ga, 0, none⟩ = some ua0 ∧ W'.cell? ⟨ga, 1, none⟩ = some ua1) ∧ (W'.cell? ⟨ka, 0, none⟩ = some ua2 ∧ W'.cell? ⟨ka, 1, none⟩ = some ua3)) ∧ ((W'.cell? ⟨gb, 0, none⟩ = some ub0 ∧ W'.cell? ⟨gb, 1, none⟩ = some ub1) ∧ (W'.cell? ⟨kb, 0, none⟩ = some ub2 ∧ W'.cell? ⟨kb, 1, none⟩ = some ub3)) := ⟨c1_keep hb h.1, c1_keep hb h.2⟩
theorem c2_drew {W : World} {ga ka gb kb : Nat} {ua0 ua1 ua2 ua3 ub0 ub1 ub2 ub3 : Value} (h : ((W.cell? ⟨ga, 0, none⟩ = some ua0 ∧ W.cell? ⟨ga, 1, none⟩ = some ua1) ∧ (W.cell? ⟨ka, 0, none⟩ = some ua2 ∧ W.cell? ⟨ka, 1, none⟩ = some ua3)) ∧ ((W.cell? ⟨gb, 0, none⟩ = some ub0 ∧ W.cell? ⟨gb, 1, none⟩ = some ub1) ∧ (W.cell? ⟨kb, 0, none⟩ = some ub2 ∧ W.cell? ⟨kb, 1, none⟩ = some ub3))) : ((W.drew.cell? ⟨ga, 0, none⟩ = some ua0 ∧ W.drew.cell? ⟨ga, 1, none⟩ = some ua1) ∧ (W.drew.cell? ⟨ka, 0, none⟩ = some ua2 ∧ W.drew.cell? ⟨ka, 1, none⟩ = some ua3)) ∧ ((W.drew.cell? ⟨gb, 0, none⟩ = some ub0 ∧ W.drew.cell? ⟨gb, 1, none⟩ = some ub1) ∧ (W.drew.cell? ⟨kb, 0, none⟩ = some ub2 ∧ W.drew.cell? ⟨kb, 1, none⟩ = some ub3)) := h
theorem c2_alloc {W : World} {ga ka gb kb : Nat} {ua0 ua1 ua2 ua3 ub0 ub1 ub2 ub3 : Value} (h : ((W.cell? ⟨ga, 0, none⟩ = some ua0 ∧ W.cell? ⟨ga, 1, none⟩ = some ua1) ∧ (W.cell? ⟨ka, 0, none⟩ = some ua2 ∧ W.cell? ⟨ka, 1, none⟩ = some ua3)) ∧ ((W.cell? ⟨gb, 0, none⟩ = some ub0 ∧ W.cell? ⟨gb, 1, none⟩ = some ub1) ∧ (W.cell? ⟨kb, 0, none⟩ = some ub2 ∧ W.cell? ⟨kb, 1, none⟩ = some ub3))) (o : Obj) : (((W.alloc o).cell? ⟨ga, 0, none⟩ = some ua0 ∧ (W.alloc o).cell? ⟨ga, 1, none⟩ = some ua1) ∧ ((W.alloc o).cell? ⟨ka, 0, none⟩ = some ua2 ∧ (W.alloc o).cell? ⟨ka, 1, none⟩ = some ua3)) ∧ (((W.alloc o).cell? ⟨gb, 0, none⟩ = some ub0 ∧ (W.alloc o).cell? ⟨gb, 1, none⟩ = some ub1) ∧ ((W.alloc o).cell? ⟨kb, 0, none⟩ = some ub2 ∧ (W.alloc o).cell? ⟨kb, 1, none⟩ = some ub3)) := ⟨c1_alloc h.1 o, c1_alloc h.2 o⟩
theorem c2_set {W : World} {b o : Nat} {ga ka gb kb : Nat} {ua0 ua1 ua2 ua3 ub0 ub1 ub2 ub3 : Value} (h : ((W.cell? ⟨ga, 0, none⟩ = some ua0 ∧ W.cell? ⟨ga, 1, none⟩ = some ua1) ∧ (W.cell? ⟨ka, 0, none⟩ = some ua2 ∧ W.cell? ⟨ka, 1, none⟩ = some ua3)) ∧ ((W.cell? ⟨gb, 0, none⟩ = some ub0 ∧ W.cell? ⟨gb, 1, none⟩ = some ub1) ∧ (W.cell? ⟨kb, 0, none⟩ = some ub2 ∧ W.cell? ⟨kb, 1, none⟩ = some ub3))) (u : Value) (n1 : b ≠ ga) (n2 : b ≠ ka) (n3 : b ≠ gb) (n4 : b ≠ kb) : (((W.setCell ⟨b, o, none⟩ u).cell? ⟨ga, 0, none⟩ = some ua0 ∧ (W.setCell ⟨b, o, none⟩ u).cell? ⟨ga, 1, none⟩ = some ua1) ∧ ((W.setCell ⟨b, o, none⟩ u).cell? ⟨ka, 0, none⟩ = some ua2 ∧ (W.setCell ⟨b, o, none⟩ u).cell? ⟨ka, 1, none⟩ = some ua3)) ∧ (((W.setCell ⟨b, o, none⟩ u).cell? ⟨gb, 0, none⟩ = some ub0 ∧ (W.setCell ⟨b, o, none⟩ u).cell? ⟨gb, 1, none⟩ = some ub1) ∧ ((W.setCell ⟨b, o, none⟩ u).cell? ⟨kb, 0, none⟩ = some ub2 ∧ (W.setCell ⟨b, o, none⟩ u).cell? ⟨kb, 1, none⟩ = some ub3)) := ⟨c1_set h.1 u n1 n2, c1_set h.2 u n3 n4⟩
set_option maxHeartbeats 4000000 in
theorem rg_walk (a0 b0 a1 b1 sc : Int) (w : World) : Calls Try.prog 3 #[.agg #[.int .i64 a0, .int .i64 b0], .agg #[.int .i64 a1, .int .i64 b1], .int .i64 sc] w fun e w' => e = .returned (.bool true) ∧ Below w.heap.size w w' := by
  obtain ⟨x0, x1, x2, x3, code, hr⟩ : ∃ x0 x1 x2 x3 code, rgR a0 b0 a1 b1 sc = ((x0, x1, x2, x3), code) := ⟨_, _, _, _, _, rfl⟩
  have HR := Lib.hid hr
  clear hr
  have hcn : (code != code) = false := by simp
  have hS0 : (((w.alloc (.cells #[.int .i64 a0, .int .i64 b0] 23)).alloc (.cells #[.int .i64 a1, .int .i64 b1] 23)).cell? ⟨w.heap.size, 0, none⟩ = some (.int .i64 a0) ∧ ((w.alloc (.cells #[.int .i64 a0, .int .i64 b0] 23)).alloc (.cells #[.int .i64 a1, .int .i64 b1] 23)).cell? ⟨w.heap.size, 1, none⟩ = some (.int .i64 b0)) ∧ (((w.alloc (.cells #[.int .i64 a0, .int .i64 b0] 23)).alloc (.cells #[.int .i64 a1, .int .i64 b1] 23)).cell? ⟨(w.heap.size + 1), 0, none⟩ = some (.int .i64 a1) ∧ ((w.alloc (.cells #[.int .i64 a0, .int .i64 b0] 23)).alloc (.cells #[.int .i64 a1, .int .i64 b1] 23)).cell? ⟨(w.heap.size + 1), 1, none⟩ = some (.int .i64 b1)) ∧ Below w.heap.size w ((w.alloc (.cells #[.int .i64 a0, .int .i64 b0] 23)).alloc (.cells #[.int .i64 a1, .int .i64 b1] 23)) := ⟨two_keep (two_new w 23 _ _) (boxed2' _ _), by have h := two_new (w.alloc (.cells #[.int .i64 a0, .int .i64 b0] 23)) 23 (.int .i64 a1) (.int .i64 b1); rwa [World.size_alloc] at h, Below.alloc (Below.alloc (Below.refl _ _) (Nat.le_refl _) _) (by simp) _⟩
  have HS0 := Lib.hid hS0
  clear hS0
  go_enter Try.func3, Try.ntmps3
  go_wp2_with fail
  go_upto_region 1 with fail
  go_cut [7, 8, 9] (fun s7 s8 s9 wx => ∃ g7 g8, s7 = .pointer (some ⟨g7, 0, none⟩) ∧ s8 = .pointer (some ⟨g8, 0, none⟩) ∧ s9 = .int .i64 code ∧ (((wx.cell? ⟨w.heap.size, 0, none⟩ = some (.int .i64 a0) ∧ wx.cell? ⟨w.heap.size, 1, none⟩ = some (.int .i64 b0)) ∧ (wx.cell? ⟨(w.heap.size + 1), 0, none⟩ = some (.int .i64 a1) ∧ wx.cell? ⟨(w.heap.size + 1), 1, none⟩ = some (.int .i64 b1)) ∧ Below w.heap.size w wx) ∧ (wx.cell? ⟨g7, 0, none⟩ = some (.int .i64 x0) ∧ wx.cell? ⟨g7, 1, none⟩ = some (.int .i64 x1)) ∧ (wx.cell? ⟨g8, 0, none⟩ = some (.int .i64 x2) ∧ wx.cell? ⟨g8, 1, none⟩ = some (.int .i64 x3))))
  case first => as_aux_lemma =>
    have hS0 := HS0.out
    have hC0 := And.intro hS0.1 hS0.2.1
    clear hS0 HS0
    go_region_held3 (fun W => (W.cell? ⟨w.heap.size, 0, none⟩ = some (.int .i64 a0) ∧ W.cell? ⟨w.heap.size, 1, none⟩ = some (.int .i64 b0)) ∧ (W.cell? ⟨(w.heap.size + 1), 0, none⟩ = some (.int .i64 a1) ∧ W.cell? ⟨(w.heap.size + 1), 1, none⟩ = some (.int .i64 b1))) (first | (with_reducible assumption) | (repeat (first | (with_reducible exact hC0) | (with_reducible refine c1_drew ?_) | (with_reducible exact H5.out) | (with_reducible refine c1_alloc ?_ _) | (with_reducible refine c1_set ?_ _ (by first | omega | (simp only [World.size_alloc, World.size_setCell, World.size_drew]; omega)) (by first | omega | (simp only [World.size_alloc, World.size_setCell, World.size_drew]; omega)))))) (first
      | (go_at_call 8; (with_reducible refine Calls.mono (toRated_lit a0 b0 _) ?_); rintro e w3 ⟨rfl, rfl⟩)
      | (go_at_call 8; (with_reducible refine Calls.mono (toRated_lit a1 b1 _) ?_); rintro e w4 ⟨rfl, rfl⟩)
      | (go_at_call 7; (with_reducible refine Calls.mono (sRateGame_any a0 b0 a1 b1 sc x0 x1 x2 x3 code HR.out _) ?_); rintro e w5 ⟨rfl, hb5⟩; have H5 : Hid ((w5.cell? ⟨w.heap.size, 0, none⟩ = some (.int .i64 a0) ∧ w5.cell? ⟨w.heap.size, 1, none⟩ = some (.int .i64 b0)) ∧ (w5.cell? ⟨(w.heap.size + 1), 0, none⟩ = some (.int .i64 a1) ∧ w5.cell? ⟨(w.heap.size + 1), 1, none⟩ = some (.int .i64 b1))) := c1_keep hb5 (by first | (with_reducible assumption) | (repeat (first | (with_reducible exact hC0) | (with_reducible refine c1_drew ?_) | (with_reducible refine c1_alloc ?_ _)))); obtain ⟨hc5, hf5, hl5, hz5⟩ := bfacts hb5; (try simp only [World.size_alloc, World.size_setCell, World.size_drew] at hc5 hf5 hl5 hz5)))
    all_goals
      go_wp2_with fail
      go_meet
      refine ⟨_, _, rfl, rfl, rfl, ⟨?_, ?_, ?_⟩, ⟨?_, ?_⟩, ?_, ?_⟩
      · exact And.left (by with_reducible assumption)
      · exact And.right (by with_reducible assumption)
      · (repeat' (first | (with_reducible exact Below.refl _ _) | (with_reducible assumption) | (with_reducible refine Below.alloc ?_ ?_ _) | (with_reducible refine Below.drew ?_) | (with_reducible refine belowDrewN ?_ _) | (with_reducible refine Below.setCell ?_ ?_ _) | (with_reducible refine Below.via (by with_reducible assumption) ?_ ?_) | (with_reducible refine Below.viaD (by with_reducible assumption) ?_ ?_) | (with_reducible exact Below.size (by with_reducible assumption)) | go_size | (with_reducible refine Nat.le_trans ?_ (Below.size (by with_reducible assumption))) | (with_reducible refine Nat.le_trans ?_ (sizeAlloc _ _)) | (with_reducible refine Nat.le_trans ?_ (sizeSet _ _ _)) | (with_reducible refine Nat.le_trans ?_ (sizeDrew _))))
      all_goals (go_simp; done)
  case rest => as_aux_lemma =>
    obtain ⟨g7, g8, rfl, rfl, rfl, ⟨e1, e2, hB⟩, e3, e4⟩ := hcut
    have hC0 := And.intro (And.intro e1 e2) (And.intro e3 e4)
    have l1 := cell_lt e1.1
    have l2 := cell_lt e2.1
    have l3 := cell_lt e3.1
    have l4 := cell_lt e4.1
    clear e1 e2 e3 e4 HS0
    go_upto_region 2 with fail
    go_cut [10, 11, 12] (fun s10 s11 s12 wy => ∃ g10 g11, s10 = .pointer (some ⟨g10, 0, none⟩) ∧ s11 = .pointer (some ⟨g11, 0, none⟩) ∧ s12 = .int .i64 code ∧ (((wy.cell? ⟨g10, 0, none⟩ = some (.int .i64 x0) ∧ wy.cell? ⟨g10, 1, none⟩ = some (.int .i64 x1)) ∧ (wy.cell? ⟨g11, 0, none⟩ = some (.int .i64 x2) ∧ wy.cell? ⟨g11, 1, none⟩ = some (.int .i64 x3)) ∧ Below w.heap.size w wy) ∧ (wy.cell? ⟨g7, 0, none⟩ = some (.int .i64 x0) ∧ wy.cell? ⟨g7, 1, none⟩ = some (.int .i64 x1)) ∧ (wy.cell? ⟨g8, 0, none⟩ = some (.int .i64 x2) ∧ wy.cell? ⟨g8, 1, none⟩ = some (.int .i64 x3))))
    case first => as_aux_lemma =>
      go_region_held3 (fun W => ((W.cell? ⟨w.heap.size, 0, none⟩ = some (.int .i64 a0) ∧ W.cell? ⟨w.heap.size, 1, none⟩ = some (.int .i64 b0)) ∧ (W.cell? ⟨(w.heap.size + 1), 0, none⟩ = some (.int .i64 a1) ∧ W.cell? ⟨(w.heap.size + 1), 1, none⟩ = some (.int .i64 b1))) ∧ ((W.cell? ⟨g7, 0, none⟩ = some (.int .i64 x0) ∧ W.cell? ⟨g7, 1, none⟩ = some (.int .i64 x1)) ∧ (W.cell? ⟨g8, 0, none⟩ = some (.int .i64 x2) ∧ W.cell? ⟨g8, 1, none⟩ = some (.int .i64 x3)))) (first | (with_reducible assumption) | (repeat (first | (with_reducible exact hC0) | (with_reducible refine c2_drew ?_) | (with_reducible exact H5.out) | (with_reducible refine c2_alloc ?_ _) | (with_reducible refine c2_set ?_ _ (by first | omega | (simp only [World.size_alloc, World.size_setCell, World.size_drew]; omega)) (by first | omega | (simp only [World.size_alloc, World.size_setCell, World.size_drew]; omega)) (by first | omega | (simp only [World.size_alloc, World.size_setCell, World.size_drew]; omega)) (by first | omega | (simp only [World.size_alloc, World.size_setCell, World.size_drew]; omega)))))) (first
        | (go_at_call 8; (with_reducible refine Calls.mono (toRated_lit a0 b0 _) ?_); rintro e w3 ⟨rfl, rfl⟩)
        | (go_at_call 8; (with_reducible refine Calls.mono (toRated_lit a1 b1 _) ?_); rintro e w4 ⟨rfl, rfl⟩)
        | (go_at_call 9; (with_reducible refine Calls.mono (RateGame_any a0 b0 a1 b1 sc x0 x1 x2 x3 code HR.out _) ?_); rintro e w5 ⟨rfl, hb5⟩; have H5 : Hid (((w5.cell? ⟨w.heap.size, 0, none⟩ = some (.int .i64 a0) ∧ w5.cell? ⟨w.heap.size, 1, none⟩ = some (.int .i64 b0)) ∧ (w5.cell? ⟨(w.heap.size + 1), 0, none⟩ = some (.int .i64 a1) ∧ w5.cell? ⟨(w.heap.size + 1), 1, none⟩ = some (.int .i64 b1))) ∧ ((w5.cell? ⟨g7, 0, none⟩ = some (.int .i64 x0) ∧ w5.cell? ⟨g7, 1, none⟩ = some (.int .i64 x1)) ∧ (w5.cell? ⟨g8, 0, none⟩ = some (.int .i64 x2) ∧ w5.cell? ⟨g8, 1, none⟩ = some (.int .i64 x3)))) := c2_keep hb5 (by first | (with_reducible assumption) | (repeat (first | (with_reducible exact hC0) | (with_reducible refine c2_drew ?_) | (with_reducible refine c2_alloc ?_ _)))); obtain ⟨hc5, hf5, hl5, hz5⟩ := bfacts hb5; (try simp only [World.size_alloc, World.size_setCell, World.size_drew] at hc5 hf5 hl5 hz5); (try (have hy0 : wc.heap.size < w5.heap.size := by omega)); (first | (refine (fun (hy1 : w5.cell? ⟨wc.heap.size, 0, none⟩ = some (.int .i64 0)) => ?_) ?_; rotate_left; (focus ((refine (hc5 _ _ ?_).trans ?_); (focus omega); (focus (go_simp; done))))) | skip); (first | (refine (fun (hy2 : w5.cell? ⟨wc.heap.size, 1, none⟩ = some (.int .i64 0)) => ?_) ?_; rotate_left; (focus ((refine (hc5 _ _ ?_).trans ?_); (focus omega); (focus (go_simp; done))))) | skip); (first | (refine (fun (hy3 : w5.frozen? ⟨wc.heap.size, 0, none⟩ = false) => ?_) ?_; rotate_left; (focus ((refine (hf5 _ _ ?_).trans ?_); (focus omega); (focus (go_simp; done))))) | skip); (first | (refine (fun (hy4 : w5.frozen? ⟨wc.heap.size, 1, none⟩ = false) => ?_) ?_; rotate_left; (focus ((refine (hf5 _ _ ?_).trans ?_); (focus omega); (focus (go_simp; done))))) | skip)))
      all_goals
        go_wp2_with fail
        go_meet
        refine ⟨_, _, rfl, rfl, rfl, ⟨⟨?_, ?_⟩, ⟨?_, ?_⟩, ?_⟩, ?_, ?_⟩
        rotate_left 4
        · (repeat' (first | (with_reducible exact Below.refl _ _) | (with_reducible assumption) | (with_reducible refine Below.alloc ?_ ?_ _) | (with_reducible refine Below.drew ?_) | (with_reducible refine belowDrewN ?_ _) | (with_reducible refine Below.setCell ?_ ?_ _) | (with_reducible refine Below.via (by with_reducible assumption) ?_ ?_) | (with_reducible refine Below.viaD (by with_reducible assumption) ?_ ?_) | (with_reducible exact Below.size (by with_reducible assumption)) | go_size | (with_reducible refine Nat.le_trans ?_ (Below.size (by with_reducible assumption))) | (with_reducible refine Nat.le_trans ?_ (sizeAlloc _ _)) | (with_reducible refine Nat.le_trans ?_ (sizeSet _ _ _)) | (with_reducible refine Nat.le_trans ?_ (sizeDrew _))))
        · exact And.left (And.right (by with_reducible assumption))
        · exact And.right (And.right (by with_reducible assumption))
        all_goals (go_simp; done)
    case rest => as_aux_lemma =>
      obtain ⟨g10, g11, rfl, rfl, rfl, ⟨⟨d0, d1⟩, ⟨d2, d3⟩, hB2⟩, ⟨d4, d5⟩, ⟨d6, d7⟩⟩ := hcut
      have m10 := cell_lt d0
      have m11 := cell_lt d2
      have m7 := cell_lt d4
      have m8 := cell_lt d6
      clear hC0
      go_wp2_with fail
      refine (eqRated_any x0 x1 x0 x1 _).mono ?_
      rintro e w1 ⟨rfl, hb1⟩
      obtain ⟨hc1, hf1, hl1, hz1⟩ := bfacts hb1
      have hq1 : eqL [x0, x1] [x0, x1] = true := by simp [eqL]
      rw [hq1]
      go_wp2_with fail
      refine (eqRated_any x2 x3 x2 x3 _).mono ?_
      rintro e w2 ⟨rfl, hb2⟩
      have hq2 : eqL [x2, x3] [x2, x3] = true := by simp [eqL]
      rw [hq2]
      go_wp2_with fail
      go_ret
      exact ⟨rfl, by (repeat' (first | (with_reducible exact Below.refl _ _) | (with_reducible assumption) | (with_reducible refine Below.alloc ?_ ?_ _) | (with_reducible refine Below.drew ?_) | (with_reducible refine belowDrewN ?_ _) | (with_reducible refine Below.setCell ?_ ?_ _) | (with_reducible refine Below.via (by with_reducible assumption) ?_ ?_) | (with_reducible refine Below.viaD (by with_reducible assumption) ?_ ?_) | (with_reducible exact Below.size (by with_reducible assumption)) | go_size | (with_reducible refine Nat.le_trans ?_ (Below.size (by with_reducible assumption))) | (with_reducible refine Nat.le_trans ?_ (sizeAlloc _ _)) | (with_reducible refine Nat.le_trans ?_ (sizeSet _ _ _)) | (with_reducible refine Nat.le_trans ?_ (sizeDrew _))))⟩
end Go.Proofs.Ytaeeijjejkohjaa
