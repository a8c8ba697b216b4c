/- Pairings: the ways by the reference. Conditions: at most 12 players. -/
import Derived.Test.YteeplmnjipddaaaWays4
import Derived.Deep.RegionWith
namespace Go.Proofs.Yteeplmnjipddaaa
set_option linter.unusedSimpArgs false
set_option linter.unusedVariables false
open Go.RowKit Go.WideShapes

set_option maxRecDepth 10000 in
set_option maxHeartbeats 4000000 in
theorem l24Ways_any (zs : List Int) (c cp2 : Nat) (A2 : Option Addr) (hc : c ≤ 150) : ∀ d, d ≤ 6 → ∀ (A : Option Addr) (n cp : Nat) (l : List Int) (w : World), n = 2 * d → n ≤ cp → cp ≤ maxLen → Sl w w.heap.size 1 A n (l.map (Value.int .i64)) → Sl w w.heap.size 2 A2 c (zs.map (Value.int .i64)) →
    Calls Try.prog 52 #[.slice A n cp, .slice A2 c cp2] w fun e w' => e = .returned (.int .i64 (waysN (fun a b => metB zs a b c) d l)) ∧ Below w.heap.size w w'
  | 0, _, A, n, cp, l, w, hn, h1, h2, h3, h4 => by
    obtain rfl : n = 0 := by omega
    clear hn h1 h2 h3 h4
    go_enter Try.func52, Try.ntmps52
    go_wp2
    go_ret
    exact ⟨rfl, by (repeat' (first | (with_reducible exact Below.refl _ _) | (with_reducible assumption) | (with_reducible refine Below.alloc ?_ ?_ _) | (with_reducible refine Below.drew ?_) | (with_reducible refine belowDrewN ?_ _) | (with_reducible refine Below.setCell ?_ ?_ _) | (with_reducible refine Below.via (by with_reducible assumption) ?_ ?_) | (with_reducible refine Below.viaD (by with_reducible assumption) ?_ ?_) | (with_reducible exact Below.size (by with_reducible assumption)) | go_size | (with_reducible refine Nat.le_trans ?_ (Below.size (by with_reducible assumption))) | (with_reducible refine Nat.le_trans ?_ (sizeAlloc _ _)) | (with_reducible refine Nat.le_trans ?_ (sizeSet _ _ _)) | (with_reducible refine Nat.le_trans ?_ (sizeDrew _))))⟩
  | d + 1, hd, A, n, cp, l, w, hn, hnc, hcm, hs, hblk => by
    have HS := Lib.hid hs
    have HK := Lib.hid hblk
    have HN := Lib.hid hn
    have IH := Lib.hid (l24Ways_any zs c cp2 A2 hc d (by omega))
    have hlen := hs.ints
    have HLEN := Lib.hid hlen
    have hn0 : ((n : Int) == 0) = false := by rw [beq_eq_false_iff_ne]; omega
    have hn12 : n ≤ 12 := by omega
    have hn2 : 2 ≤ n := by omega
    obtain ⟨F, hF⟩ : ∃ F, wayF (fun a b => metB zs a b c) d l = F := ⟨_, rfl⟩
    have HF := Lib.hid hF
    have HSM : Hid (∀ k, k ≤ 11 → 0 ≤ sumW F k ∧ sumW F k ≤ 10395) := fun k hk => by rw [← hF]; exact sumW_small (by omega) l hk
    have HF1 : Hid (∀ k, 1 ≤ k → (metB zs (l.getD 0 0) (l.getD k 0) c = true → F (k - 1) = 0) ∧ (metB zs (l.getD 0 0) (l.getD k 0) c = false → F (k - 1) = waysN (fun a b => metB zs a b c) d (witho l k))) := fun k hk => by
      rw [← hF, wayF, show k - 1 + 1 = k by omega]
      exact ⟨fun h => by rw [if_pos h], fun h => by rw [if_neg (by rw [h]; decide)]⟩
    rw [waysN_succ, hF]
    clear hs hblk hn hlen hF
    go_enter Try.func52, Try.ntmps52
    go_wp2
    go_loopw [5, 6] (fun s i wr => ∃ k : Nat, 1 ≤ k ∧ k ≤ n ∧ i = .int .i64 k ∧ s = .int .i64 (sumW F (k - 1)) ∧ Below w.heap.size w wr) (fun _ i _ => n - (intOf i).toNat)
    case atStart => exact ⟨1, Nat.le_refl _, by omega, rfl, rfl, Below.refl _ _⟩
    case round =>
      obtain ⟨k, hk1, hk, rfl, rfl, hbl⟩ := hrel
      rename World => wo
      have HBL := Lib.hid hbl
      obtain ⟨s0, s1⟩ := HSM.out (k - 1) (by omega)
      by_cases hlt : k < n
      · have HSo := Lib.hid (HS.out.later hbl)
        obtain ⟨b, off, x, rfl, hb, hx, hc0⟩ := HSo.out.int (show 0 < n by omega)
        obtain ⟨b', off', y, e2, _, hy, hc1⟩ := HSo.out.int hlt
        injection e2 with e2
        injection e2 with e3 e4
        subst e3 e4
        rw [Nat.add_zero] at hc0
        have HKo := Lib.hid (HK.out.later hbl)
        have HMT := Lib.hid (fun W (h : Sl W W.heap.size 2 A2 c (zs.map (Value.int .i64))) => l24Met_any A2 c cp2 zs x y W h hc)
        have hf1 := HF1.out k hk1
        rw [hx.out, hy.out] at hf1
        have hss : sumW F k = sumW F (k - 1) + F (k - 1) := by
          have h : sumW F (k - 1 + 1) = sumW F (k - 1) + F (k - 1) := rfl
          rwa [show k - 1 + 1 = k by omega] at h
        obtain ⟨t0, t1⟩ := HSM.out k (by omega)
        revert HMT hf1 s0 s1 hss
        generalize sumW F (k - 1) = S
        generalize F (k - 1) = f
        generalize metB zs x y c = q
        intro s0 s1 HMT hf1 hss
        cases q
        case true =>
          have hf := hf1.1 rfl
          subst hf
          rw [Int.add_zero] at hss
          have HSS := Lib.hid hss
          clear hf1 hss t0 t1 hbl
          go_wp2_with fail
          go_region_with (go_at_call 69; refine (HMT.out _ (by first | exact HKo.out | exact HKo.out.drew)).mono ?_; rintro e w1 ⟨rfl, hb1⟩)
          all_goals
          go_wp2_with fail
          have hbl := HBL.out
          go_roundw
          case rel => exact ⟨k + 1, by omega, by omega, by go_num, by rw [show k + 1 - 1 = k by omega, HSS.out], by (repeat' (first | (with_reducible exact Below.refl _ _) | (with_reducible assumption) | (with_reducible refine Below.alloc ?_ ?_ _) | (with_reducible refine Below.drew ?_) | (with_reducible refine belowDrewN ?_ _) | (with_reducible refine Below.setCell ?_ ?_ _) | (with_reducible refine Below.via (by with_reducible assumption) ?_ ?_) | (with_reducible refine Below.viaD (by with_reducible assumption) ?_ ?_) | (with_reducible exact Below.size (by with_reducible assumption)) | go_size | (with_reducible refine Nat.le_trans ?_ (Below.size (by with_reducible assumption))) | (with_reducible refine Nat.le_trans ?_ (sizeAlloc _ _)) | (with_reducible refine Nat.le_trans ?_ (sizeSet _ _ _)) | (with_reducible refine Nat.le_trans ?_ (sizeDrew _))))⟩
          case measure => first | (simp [intOf]; done) | (simp [intOf]; omega)
        case false =>
          have hf := hf1.2 rfl
          have HSS := Lib.hid hss
          have HFF := Lib.hid hf
          have hsw : IntKind.i64.wrap (S + f) = S + f := IntWalk.i64_in _ (by omega)
          clear hf1 hss hf t0 t1 hbl
          go_wp2_with fail
          go_region_with (go_at_call 69; refine (HMT.out _ (by first | exact HKo.out | exact HKo.out.drew)).mono ?_; rintro e w0 ⟨rfl, hb0⟩)
          all_goals
          have hbu := Below.undrew hb0
          have B0 := Lib.hid (Below.via hbu HBL.out HBL.out.size)
          have SL0 := Lib.hid (HSo.out.later hbu)
          have K0 := Lib.hid (HKo.out.later hbu)
          clear hb0 hc0 hc1
          go_wp2_with fail
          refine (l24Without_any _ n cp k l _ SL0.out hn12 hnc hcm hk1 hlt).mono ?_
          rintro e w1 ⟨v, rfl, hown, hb1⟩
          obtain ⟨A1, g1, cap1, rfl, hg1, hnc1, hcm1, ho1⟩ := own_of_row hown
          have SL1 := Lib.hid ho1.sl
          have K1 := Lib.hid (K0.out.later hb1)
          have B1 := Lib.hid (Below.via hb1 B0.out B0.out.size)
          have hz1 := B1.out.size
          clear hown hb1 ho1
          go_wp2_with fail
          refine (IH.out A1 (n - 2) cap1 (witho l k) _ (by have := HN.out; omega) hnc1 hcm1 SL1.out K1.out).mono ?_
          rw [← HFF.out]
          rintro e w2 ⟨rfl, hb2⟩
          have hbl := Below.via hb2 B1.out hz1
          clear hb2
          go_wp2_with fail
          go_roundw
          case rel => exact ⟨k + 1, by omega, by omega, by go_num, by rw [show k + 1 - 1 = k by omega, HSS.out], by (repeat' (first | (with_reducible exact Below.refl _ _) | (with_reducible assumption) | (with_reducible refine Below.alloc ?_ ?_ _) | (with_reducible refine Below.drew ?_) | (with_reducible refine belowDrewN ?_ _) | (with_reducible refine Below.setCell ?_ ?_ _) | (with_reducible refine Below.via (by with_reducible assumption) ?_ ?_) | (with_reducible refine Below.viaD (by with_reducible assumption) ?_ ?_) | (with_reducible exact Below.size (by with_reducible assumption)) | go_size | (with_reducible refine Nat.le_trans ?_ (Below.size (by with_reducible assumption))) | (with_reducible refine Nat.le_trans ?_ (sizeAlloc _ _)) | (with_reducible refine Nat.le_trans ?_ (sizeSet _ _ _)) | (with_reducible refine Nat.le_trans ?_ (sizeDrew _))))⟩
          case measure => first | (simp [intOf]; done) | (simp [intOf]; omega)
      · obtain rfl : k = n := by omega
        have HNN := Lib.hid (show k - 1 = 2 * d + 1 by have := HN.out; omega)
        rw [HNN.out] at s0 s1
        go_wp2
        go_ret
        exact ⟨by rw [HNN.out]; rfl, hbl⟩
end Go.Proofs.Yteeplmnjipddaaa
