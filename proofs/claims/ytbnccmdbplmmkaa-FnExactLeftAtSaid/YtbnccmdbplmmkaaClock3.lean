/- FallsAt: both functions, and the law. No conditions beyond lengths. -/
import Derived.Test.YtbnccmdbplmmkaaClock2
namespace Go.Proofs.Ytbnccmdbplmmkaa
set_option linter.unusedSimpArgs false
set_option linter.unusedVariables false
open Go.RowKit

theorem vC_of {zs : List Int} {inc del pl si : Int} {ru fa : Bool} (h : vC zs inc del pl si ru fa = true) : ∃ z0 z1, zs = [z0, z1] ∧ (0 ≤ z0 ∧ z0 ≤ 36000000) ∧ (0 ≤ z1 ∧ z1 ≤ 36000000) ∧ (0 ≤ inc ∧ inc ≤ 36000000) ∧ (0 ≤ del ∧ del ≤ 36000000) ∧ (0 ≤ si ∧ si ≤ 36000000) ∧ (pl = 0 ∨ pl = 1) ∧ (fa = true → ru = false) := by
  by_cases hl : zs.length = 2
  · obtain ⟨z0, z1, rfl⟩ := list2 hl
    rw [vC_two] at h
    simp only [Bool.and_eq_true] at h
    obtain ⟨⟨⟨⟨⟨⟨h0, h1⟩, h2⟩, h3⟩, h4⟩, h5⟩, h6⟩ := h
    have h5' := inB_of h5
    refine ⟨z0, z1, rfl, inB_of h0, inB_of h1, inB_of h2, inB_of h3, inB_of h4, by omega, ?_⟩
    intro hf
    subst hf
    simp at h6
    exact h6.1.2
  · rw [vC_len hl] at h
    cases h
def atP (zs : List Int) (pl : Int) : Int := zs.getD pl.toNat 0
def faC (zs : List Int) (inc del pl si : Int) (ru fa : Bool) : Int := if vC zs inc del pl si ru fa && ru then si + del + atP zs pl else 0
def faE (zs : List Int) (inc del pl si : Int) (ru fa : Bool) : Int := if vC zs inc del pl si ru fa then (if ru then 0 else 6) else 1
theorem fa_no {zs : List Int} {inc del pl si : Int} {ru fa : Bool} (h : vC zs inc del pl si ru fa = false) : faC zs inc del pl si ru fa = 0 ∧ faE zs inc del pl si ru fa = 1 := by rw [faC, faE, h]; exact ⟨rfl, rfl⟩
theorem fa_still {zs : List Int} {inc del pl si : Int} {fa : Bool} (h : vC zs inc del pl si false fa = true) : faC zs inc del pl si false fa = 0 ∧ faE zs inc del pl si false fa = 6 := by rw [faC, faE, h]; exact ⟨rfl, rfl⟩
theorem fa_yes {zs : List Int} {inc del pl si : Int} {fa : Bool} (h : vC zs inc del pl si true fa = true) : faC zs inc del pl si true fa = si + del + atP zs pl ∧ faE zs inc del pl si true fa = 0 := by rw [faC, faE, h]; exact ⟨rfl, rfl⟩
set_option maxHeartbeats 1000000 in
theorem sFallsAt_any (A : Option Addr) (n c : Nat) (zs : List Int) (inc del pl si : Int) (ru fa : Bool) (w : World) (hs : Sl w w.heap.size 1 A n (zs.map (Value.int .i64))) (hn : n ≤ 9223372036854775807) : Calls Try.prog 19 #[.agg #[.slice A n c, .int .i64 inc, .int .i64 del, .int .i64 pl, .int .i64 si, .bool ru, .bool fa]] w fun e w' => e = .returned (.tuple #[.int .i64 (faC zs inc del pl si ru fa), .int .i64 (faE zs inc del pl si ru fa)]) ∧ Below w.heap.size w w' := by
  cases hv : vC zs inc del pl si ru fa
  case false =>
    obtain ⟨e1, e2⟩ := fa_no hv
    have H1 := Lib.hid e1
    have H2 := Lib.hid e2
    clear e1 e2
    go_enter Try.func19, Try.ntmps19
    go_wp2_with fail
    refine (l23Ok_any _ _ _ _ _ _ _ _ _ _ w.heap.size _ (hs.later (Below.alloc (Below.refl _ _) (Nat.le_refl _) _)) (by simp; rfl) (by simp; rfl) (by simp; rfl) (by simp; rfl) (by simp; rfl) (by simp; rfl) (by simp; rfl) hn).mono ?_
    rintro e w1 ⟨rfl, hb1⟩
    obtain ⟨hc1, hf1, hl1, hz1⟩ := bfacts hb1
    go_wp2_with fail
    go_ret2
    exact ⟨by rw [H1.out, H2.out]; rfl, by (repeat' (first | (with_reducible exact Below.refl _ _) | (with_reducible assumption) | (with_reducible refine Below.alloc ?_ ?_ _) | (with_reducible refine Below.drew ?_) | (with_reducible refine belowDrewN ?_ _) | (with_reducible refine Below.setCell ?_ ?_ _) | (with_reducible refine Below.via (by with_reducible assumption) ?_ ?_) | (with_reducible exact Below.size (by with_reducible assumption)) | go_size | (with_reducible refine Nat.le_trans ?_ (Below.size (by with_reducible assumption))) | (with_reducible refine Nat.le_trans ?_ (sizeAlloc _ _)) | (with_reducible refine Nat.le_trans ?_ (sizeSet _ _ _)) | (with_reducible refine Nat.le_trans ?_ (sizeDrew _))))⟩
  case true =>
    cases ru
    case false =>
      obtain ⟨e1, e2⟩ := fa_still hv
      have H1 := Lib.hid e1
      have H2 := Lib.hid e2
      clear e1 e2
      go_enter Try.func19, Try.ntmps19
      go_wp2_with fail
      refine (l23Ok_any _ _ _ _ _ _ _ _ _ _ w.heap.size _ (hs.later (Below.alloc (Below.refl _ _) (Nat.le_refl _) _)) (by simp; rfl) (by simp; rfl) (by simp; rfl) (by simp; rfl) (by simp; rfl) (by simp; rfl) (by simp; rfl) hn).mono ?_
      rintro e w1 ⟨rfl, hb1⟩
      obtain ⟨hc1, hf1, hl1, hz1⟩ := bfacts hb1
      go_wp2_with fail
      go_ret2
      exact ⟨by rw [H1.out, H2.out]; rfl, by (repeat' (first | (with_reducible exact Below.refl _ _) | (with_reducible assumption) | (with_reducible refine Below.alloc ?_ ?_ _) | (with_reducible refine Below.drew ?_) | (with_reducible refine belowDrewN ?_ _) | (with_reducible refine Below.setCell ?_ ?_ _) | (with_reducible refine Below.via (by with_reducible assumption) ?_ ?_) | (with_reducible exact Below.size (by with_reducible assumption)) | go_size | (with_reducible refine Nat.le_trans ?_ (Below.size (by with_reducible assumption))) | (with_reducible refine Nat.le_trans ?_ (sizeAlloc _ _)) | (with_reducible refine Nat.le_trans ?_ (sizeSet _ _ _)) | (with_reducible refine Nat.le_trans ?_ (sizeDrew _))))⟩
    case true =>
      obtain ⟨e1, e2⟩ := fa_yes hv
      obtain ⟨z0, z1, rfl, b0, b1, b2, b3, b4, hpl, _⟩ := vC_of hv
      have H2 := Lib.hid e2
      have hl := hs.ints
      have hn2 : n = 2 := hl.symm
      subst hn2
      rcases hpl with rfl | rfl
      all_goals
        have H1 := Lib.hid e1
        clear e1 e2 hl
        go_enter Try.func19, Try.ntmps19
        go_wp2_with fail
        refine (l23Ok_any _ _ _ _ _ _ _ _ _ _ w.heap.size _ (hs.later (Below.alloc (Below.refl _ _) (Nat.le_refl _) _)) (by simp; rfl) (by simp; rfl) (by simp; rfl) (by simp; rfl) (by simp; rfl) (by simp; rfl) (by simp; rfl) hn).mono ?_
        rintro e w1 ⟨rfl, hb1⟩
        obtain ⟨hc1, hf1, hl1, hz1⟩ := bfacts hb1
        obtain ⟨b, off, rfl, hb, hc⟩ := ((hs.later (Below.alloc (Below.refl _ _) (Nat.le_refl _) _)).later hb1).2 (by omega)
        have hc0 := hc 0 _ rfl
        have hc1' := hc 1 _ rfl
        rw [Nat.add_zero] at hc0
        clear hc
        go_wp2_with fail
        go_quiet (fail)
        go_wp2_with fail
        go_ret2
        exact ⟨by rw [H1.out, H2.out]; rfl, by (repeat' (first | (with_reducible exact Below.refl _ _) | (with_reducible assumption) | (with_reducible refine Below.alloc ?_ ?_ _) | (with_reducible refine Below.drew ?_) | (with_reducible refine belowDrewN ?_ _) | (with_reducible refine Below.setCell ?_ ?_ _) | (with_reducible refine Below.via (by with_reducible assumption) ?_ ?_) | (with_reducible exact Below.size (by with_reducible assumption)) | go_size | (with_reducible refine Nat.le_trans ?_ (Below.size (by with_reducible assumption))) | (with_reducible refine Nat.le_trans ?_ (sizeAlloc _ _)) | (with_reducible refine Nat.le_trans ?_ (sizeSet _ _ _)) | (with_reducible refine Nat.le_trans ?_ (sizeDrew _))))⟩
set_option maxHeartbeats 1000000 in
theorem FallsAt_any (A : Option Addr) (n c : Nat) (zs : List Int) (inc del pl si : Int) (ru fa : Bool) (w : World) (hs : Sl w w.heap.size 1 A n (zs.map (Value.int .i64))) (hn : n ≤ 9223372036854775807) : Calls Try.prog 20 #[.agg #[.slice A n c, .int .i64 inc, .int .i64 del, .int .i64 pl, .int .i64 si, .bool ru, .bool fa]] w fun e w' => e = .returned (.tuple #[.int .i64 (faC zs inc del pl si ru fa), .int .i64 (faE zs inc del pl si ru fa)]) ∧ Below w.heap.size w w' := by
  cases hv : vC zs inc del pl si ru fa
  case false =>
    obtain ⟨e1, e2⟩ := fa_no hv
    have H1 := Lib.hid e1
    have H2 := Lib.hid e2
    clear e1 e2
    go_enter Try.func20, Try.ntmps20
    go_wp2_with fail
    refine (ValidClock_any _ _ _ _ _ _ _ _ _ _ _ (hs.later (Below.alloc (Below.refl _ _) (Nat.le_refl _) _)) hn).mono ?_
    rintro e w1 ⟨rfl, hb1⟩
    obtain ⟨hc1, hf1, hl1, hz1⟩ := bfacts hb1
    go_wp2_with fail
    go_ret2
    exact ⟨by rw [H1.out, H2.out]; rfl, by (repeat' (first | (with_reducible exact Below.refl _ _) | (with_reducible assumption) | (with_reducible refine Below.alloc ?_ ?_ _) | (with_reducible refine Below.drew ?_) | (with_reducible refine belowDrewN ?_ _) | (with_reducible refine Below.setCell ?_ ?_ _) | (with_reducible refine Below.via (by with_reducible assumption) ?_ ?_) | (with_reducible exact Below.size (by with_reducible assumption)) | go_size | (with_reducible refine Nat.le_trans ?_ (Below.size (by with_reducible assumption))) | (with_reducible refine Nat.le_trans ?_ (sizeAlloc _ _)) | (with_reducible refine Nat.le_trans ?_ (sizeSet _ _ _)) | (with_reducible refine Nat.le_trans ?_ (sizeDrew _))))⟩
  case true =>
    cases ru
    case false =>
      obtain ⟨e1, e2⟩ := fa_still hv
      have H1 := Lib.hid e1
      have H2 := Lib.hid e2
      clear e1 e2
      go_enter Try.func20, Try.ntmps20
      go_wp2_with fail
      refine (ValidClock_any _ _ _ _ _ _ _ _ _ _ _ (hs.later (Below.alloc (Below.refl _ _) (Nat.le_refl _) _)) hn).mono ?_
      rintro e w1 ⟨rfl, hb1⟩
      obtain ⟨hc1, hf1, hl1, hz1⟩ := bfacts hb1
      go_wp2_with fail
      go_ret2
      exact ⟨by rw [H1.out, H2.out]; rfl, by (repeat' (first | (with_reducible exact Below.refl _ _) | (with_reducible assumption) | (with_reducible refine Below.alloc ?_ ?_ _) | (with_reducible refine Below.drew ?_) | (with_reducible refine belowDrewN ?_ _) | (with_reducible refine Below.setCell ?_ ?_ _) | (with_reducible refine Below.via (by with_reducible assumption) ?_ ?_) | (with_reducible exact Below.size (by with_reducible assumption)) | go_size | (with_reducible refine Nat.le_trans ?_ (Below.size (by with_reducible assumption))) | (with_reducible refine Nat.le_trans ?_ (sizeAlloc _ _)) | (with_reducible refine Nat.le_trans ?_ (sizeSet _ _ _)) | (with_reducible refine Nat.le_trans ?_ (sizeDrew _))))⟩
    case true =>
      obtain ⟨e1, e2⟩ := fa_yes hv
      obtain ⟨z0, z1, rfl, b0, b1, b2, b3, b4, hpl, _⟩ := vC_of hv
      have H2 := Lib.hid e2
      have hl := hs.ints
      have hn2 : n = 2 := hl.symm
      subst hn2
      rcases hpl with rfl | rfl
      all_goals
        have H1 := Lib.hid e1
        clear e1 e2 hl
        go_enter Try.func20, Try.ntmps20
        go_wp2_with fail
        refine (ValidClock_any _ _ _ _ _ _ _ _ _ _ _ (hs.later (Below.alloc (Below.refl _ _) (Nat.le_refl _) _)) hn).mono ?_
        rintro e w1 ⟨rfl, hb1⟩
        obtain ⟨hc1, hf1, hl1, hz1⟩ := bfacts hb1
        obtain ⟨b, off, rfl, hb, hc⟩ := ((hs.later (Below.alloc (Below.refl _ _) (Nat.le_refl _) _)).later hb1).2 (by omega)
        have hc0 := hc 0 _ rfl
        have hc1' := hc 1 _ rfl
        rw [Nat.add_zero] at hc0
        clear hc
        go_wp2_with fail
        go_quiet (fail)
        go_wp2_with fail
        go_ret2
        exact ⟨by rw [H1.out, H2.out]; rfl, by (repeat' (first | (with_reducible exact Below.refl _ _) | (with_reducible assumption) | (with_reducible refine Below.alloc ?_ ?_ _) | (with_reducible refine Below.drew ?_) | (with_reducible refine belowDrewN ?_ _) | (with_reducible refine Below.setCell ?_ ?_ _) | (with_reducible refine Below.via (by with_reducible assumption) ?_ ?_) | (with_reducible exact Below.size (by with_reducible assumption)) | go_size | (with_reducible refine Nat.le_trans ?_ (Below.size (by with_reducible assumption))) | (with_reducible refine Nat.le_trans ?_ (sizeAlloc _ _)) | (with_reducible refine Nat.le_trans ?_ (sizeSet _ _ _)) | (with_reducible refine Nat.le_trans ?_ (sizeDrew _))))⟩
set_option maxHeartbeats 2000000 in
theorem fa_walk (A : Option Addr) (n c : Nat) (zs : List Int) (inc del pl si : Int) (ru fa : Bool) (w : World) (hs : Sl w w.heap.size 1 A n (zs.map (Value.int .i64))) (hn : n ≤ 9223372036854775807) : Calls Try.prog 6 #[.agg #[.slice A n c, .int .i64 inc, .int .i64 del, .int .i64 pl, .int .i64 si, .bool ru, .bool fa]] w fun e w' => e = .returned (.bool true) ∧ Below w.heap.size w w' := by
  by_cases hbig : (n : Int) ≤ 1048576
  case neg =>
    go_enter Try.func6, Try.ntmps6
    go_wp2_with fail
    refine (szClock_gt A n c zs inc del pl si ru fa _ (hs.later (by (repeat' (first | (with_reducible exact Below.refl _ _) | (with_reducible assumption) | (with_reducible refine Below.alloc ?_ ?_ _) | (with_reducible refine Below.drew ?_) | (with_reducible refine belowDrewN ?_ _) | (with_reducible refine Below.setCell ?_ ?_ _) | (with_reducible refine Below.via (by with_reducible assumption) ?_ ?_) | (with_reducible exact Below.size (by with_reducible assumption)) | go_size | (with_reducible refine Nat.le_trans ?_ (Below.size (by with_reducible assumption))) | (with_reducible refine Nat.le_trans ?_ (sizeAlloc _ _)) | (with_reducible refine Nat.le_trans ?_ (sizeSet _ _ _)) | (with_reducible refine Nat.le_trans ?_ (sizeDrew _)))))) 1048576 (by omega) (by omega) hn).mono ?_
    rintro e w1 ⟨rfl, hb1⟩
    go_wp2_with fail
    go_ret
    exact ⟨rfl, by (repeat' (first | (with_reducible exact Below.refl _ _) | (with_reducible assumption) | (with_reducible refine Below.alloc ?_ ?_ _) | (with_reducible refine Below.drew ?_) | (with_reducible refine belowDrewN ?_ _) | (with_reducible refine Below.setCell ?_ ?_ _) | (with_reducible refine Below.via (by with_reducible assumption) ?_ ?_) | (with_reducible exact Below.size (by with_reducible assumption)) | go_size | (with_reducible refine Nat.le_trans ?_ (Below.size (by with_reducible assumption))) | (with_reducible refine Nat.le_trans ?_ (sizeAlloc _ _)) | (with_reducible refine Nat.le_trans ?_ (sizeSet _ _ _)) | (with_reducible refine Nat.le_trans ?_ (sizeDrew _))))⟩
  case pos =>
    have hn2 : n ≤ 1048576 := by omega
    go_enter Try.func6, Try.ntmps6
    go_wp2_with fail
    refine (szClock_le A n c zs inc del pl si ru fa _ (hs.later (by (repeat' (first | (with_reducible exact Below.refl _ _) | (with_reducible assumption) | (with_reducible refine Below.alloc ?_ ?_ _) | (with_reducible refine Below.drew ?_) | (with_reducible refine belowDrewN ?_ _) | (with_reducible refine Below.setCell ?_ ?_ _) | (with_reducible refine Below.via (by with_reducible assumption) ?_ ?_) | (with_reducible exact Below.size (by with_reducible assumption)) | go_size | (with_reducible refine Nat.le_trans ?_ (Below.size (by with_reducible assumption))) | (with_reducible refine Nat.le_trans ?_ (sizeAlloc _ _)) | (with_reducible refine Nat.le_trans ?_ (sizeSet _ _ _)) | (with_reducible refine Nat.le_trans ?_ (sizeDrew _)))))) 1048576 (by omega) (by omega)).mono ?_
    rintro e w1 ⟨rfl, hb1⟩
    obtain ⟨hc1, hf1, hl1, hz1⟩ := bfacts hb1
    have B1 : Below w.heap.size w w1 := by (repeat' (first | (with_reducible exact Below.refl _ _) | (with_reducible assumption) | (with_reducible refine Below.alloc ?_ ?_ _) | (with_reducible refine Below.drew ?_) | (with_reducible refine belowDrewN ?_ _) | (with_reducible refine Below.setCell ?_ ?_ _) | (with_reducible refine Below.via (by with_reducible assumption) ?_ ?_) | (with_reducible exact Below.size (by with_reducible assumption)) | go_size | (with_reducible refine Nat.le_trans ?_ (Below.size (by with_reducible assumption))) | (with_reducible refine Nat.le_trans ?_ (sizeAlloc _ _)) | (with_reducible refine Nat.le_trans ?_ (sizeSet _ _ _)) | (with_reducible refine Nat.le_trans ?_ (sizeDrew _))))
    go_wp2_with fail
    refine (toClock_any A n c zs inc del pl si ru fa _ (hs.later B1) hn2).mono ?_
    rintro e w2 ⟨g2, rfl, hg2, k2, hb2⟩
    have C2 := Below.via hb2 hb1 hb1.size
    obtain ⟨hc2, hf2, hl2, hz2⟩ := bfacts C2
    have B2 : Below w.heap.size w w2 := by (repeat' (first | (with_reducible exact Below.refl _ _) | (with_reducible assumption) | (with_reducible refine Below.alloc ?_ ?_ _) | (with_reducible refine Below.drew ?_) | (with_reducible refine belowDrewN ?_ _) | (with_reducible refine Below.setCell ?_ ?_ _) | (with_reducible refine Below.via (by with_reducible assumption) ?_ ?_) | (with_reducible exact Below.size (by with_reducible assumption)) | go_size | (with_reducible refine Nat.le_trans ?_ (Below.size (by with_reducible assumption))) | (with_reducible refine Nat.le_trans ?_ (sizeAlloc _ _)) | (with_reducible refine Nat.le_trans ?_ (sizeSet _ _ _)) | (with_reducible refine Nat.le_trans ?_ (sizeDrew _))))
    go_wp2_with fail
    refine (sFallsAt_any _ n n zs inc del pl si ru fa _ (Blk.sl (rest := []) (by simpa using k2) (by simpa using hs.ints)) hn).mono ?_
    rintro e w3 ⟨rfl, hb3⟩
    have C3 := Below.via hb3 C2 C2.size
    obtain ⟨hc3, hf3, hl3, hz3⟩ := bfacts C3
    have B3 : Below w.heap.size w w3 := by (repeat' (first | (with_reducible exact Below.refl _ _) | (with_reducible assumption) | (with_reducible refine Below.alloc ?_ ?_ _) | (with_reducible refine Below.drew ?_) | (with_reducible refine belowDrewN ?_ _) | (with_reducible refine Below.setCell ?_ ?_ _) | (with_reducible refine Below.via (by with_reducible assumption) ?_ ?_) | (with_reducible exact Below.size (by with_reducible assumption)) | go_size | (with_reducible refine Nat.le_trans ?_ (Below.size (by with_reducible assumption))) | (with_reducible refine Nat.le_trans ?_ (sizeAlloc _ _)) | (with_reducible refine Nat.le_trans ?_ (sizeSet _ _ _)) | (with_reducible refine Nat.le_trans ?_ (sizeDrew _))))
    go_wp2_with fail
    refine (toClock_any A n c zs inc del pl si ru fa _ (hs.later B3) hn2).mono ?_
    rintro e w4 ⟨g4, rfl, hg4, k4, hb4⟩
    have C4 := Below.via hb4 C3 C3.size
    obtain ⟨hc4, hf4, hl4, hz4⟩ := bfacts C4
    have B4 : Below w.heap.size w w4 := by (repeat' (first | (with_reducible exact Below.refl _ _) | (with_reducible assumption) | (with_reducible refine Below.alloc ?_ ?_ _) | (with_reducible refine Below.drew ?_) | (with_reducible refine belowDrewN ?_ _) | (with_reducible refine Below.setCell ?_ ?_ _) | (with_reducible refine Below.via (by with_reducible assumption) ?_ ?_) | (with_reducible exact Below.size (by with_reducible assumption)) | go_size | (with_reducible refine Nat.le_trans ?_ (Below.size (by with_reducible assumption))) | (with_reducible refine Nat.le_trans ?_ (sizeAlloc _ _)) | (with_reducible refine Nat.le_trans ?_ (sizeSet _ _ _)) | (with_reducible refine Nat.le_trans ?_ (sizeDrew _))))
    have s4 := Blk.sl (rest := []) (n := n) (m := 1) (zs := zs) (by simpa using k4) (by simpa using hs.ints)
    clear k2 k4
    go_wp2_with fail
    refine (FallsAt_any _ n n zs inc del pl si ru fa _ (s4.later (by (repeat' (first | (with_reducible exact Below.refl _ _) | (with_reducible assumption) | (with_reducible refine Below.alloc ?_ ?_ _) | (with_reducible refine Below.drew ?_) | (with_reducible refine belowDrewN ?_ _) | (with_reducible refine Below.setCell ?_ ?_ _) | (with_reducible refine Below.via (by with_reducible assumption) ?_ ?_) | (with_reducible exact Below.size (by with_reducible assumption)) | go_size | (with_reducible refine Nat.le_trans ?_ (Below.size (by with_reducible assumption))) | (with_reducible refine Nat.le_trans ?_ (sizeAlloc _ _)) | (with_reducible refine Nat.le_trans ?_ (sizeSet _ _ _)) | (with_reducible refine Nat.le_trans ?_ (sizeDrew _)))))) hn).mono ?_
    rintro e w5 ⟨rfl, hb5⟩
    have C5 := Below.via hb5 (Below.alloc C4 C4.size _) (Nat.le_trans C4.size (sizeAlloc _ _))
    clear hc1 hf1 hl1 hz1 hc2 hf2 hl2 hz2 hc3 hf3 hl3 hz3 hc4 hf4 hl4 hz4
    obtain ⟨hc5, hf5, hl5, hz5⟩ := bfacts C5
    have B5 : Below w.heap.size w w5 := by (repeat' (first | (with_reducible exact Below.refl _ _) | (with_reducible assumption) | (with_reducible refine Below.alloc ?_ ?_ _) | (with_reducible refine Below.drew ?_) | (with_reducible refine belowDrewN ?_ _) | (with_reducible refine Below.setCell ?_ ?_ _) | (with_reducible refine Below.via (by with_reducible assumption) ?_ ?_) | (with_reducible exact Below.size (by with_reducible assumption)) | go_size | (with_reducible refine Nat.le_trans ?_ (Below.size (by with_reducible assumption))) | (with_reducible refine Nat.le_trans ?_ (sizeAlloc _ _)) | (with_reducible refine Nat.le_trans ?_ (sizeSet _ _ _)) | (with_reducible refine Nat.le_trans ?_ (sizeDrew _))))
    have X5 := (Blk.new w4 24 #[.slice (some ⟨g4, 0, none⟩) n n, .int .i64 inc, .int .i64 del, .int .i64 pl, .int .i64 si, .bool ru, .bool fa]).later hb5
    have hX5 := X5.cell
    have HX := Lib.hid X5
    have s5 := (s4.later (by (repeat' (first | (with_reducible exact Below.refl _ _) | (with_reducible assumption) | (with_reducible refine Below.alloc ?_ ?_ _) | (with_reducible refine Below.drew ?_) | (with_reducible refine belowDrewN ?_ _) | (with_reducible refine Below.setCell ?_ ?_ _) | (with_reducible refine Below.via (by with_reducible assumption) ?_ ?_) | (with_reducible exact Below.size (by with_reducible assumption)) | go_size | (with_reducible refine Nat.le_trans ?_ (Below.size (by with_reducible assumption))) | (with_reducible refine Nat.le_trans ?_ (sizeAlloc _ _)) | (with_reducible refine Nat.le_trans ?_ (sizeSet _ _ _)) | (with_reducible refine Nat.le_trans ?_ (sizeDrew _)))))).later hb5
    have t5 := hs.later B5
    clear X5
    
    go_wp2_with fail
    go_region_with (first | (go_at_call 15; refine (toClock_any A n c zs inc del pl si ru fa _ (by exact t5.drew) hn2).mono ?_; rintro e w6 ⟨g6, rfl, hg6, k6, hb6d⟩; have hb6 := Below.undrew hb6d; have X6 := (HX.out.later hb6).cell; have s6 := Blk.sl (rest := []) (n := n) (m := 1) (zs := zs) (by simpa using k6) (by simpa using hs.ints); have u6 := s5.later hb6; clear k6) | (go_at_call 10; refine (eqClock_same _ n n zs inc del pl si ru fa _ (by exact u6) _ n (by exact s6) hn).mono ?_; rintro e w7 ⟨rfl, hb7⟩))
    all_goals
      go_wp2_with fail
      go_ret
      exact ⟨rfl, by (repeat' (first | (with_reducible exact Below.refl _ _) | (with_reducible assumption) | (with_reducible refine Below.alloc ?_ ?_ _) | (with_reducible refine Below.drew ?_) | (with_reducible refine belowDrewN ?_ _) | (with_reducible refine Below.setCell ?_ ?_ _) | (with_reducible refine Below.via (by with_reducible assumption) ?_ ?_) | (with_reducible exact Below.size (by with_reducible assumption)) | go_size | (with_reducible refine Nat.le_trans ?_ (Below.size (by with_reducible assumption))) | (with_reducible refine Nat.le_trans ?_ (sizeAlloc _ _)) | (with_reducible refine Nat.le_trans ?_ (sizeSet _ _ _)) | (with_reducible refine Nat.le_trans ?_ (sizeDrew _))))⟩
end Go.Proofs.Ytbnccmdbplmmkaa
