/- Pairings: the ways to pair an even number of players, by both functions. Conditions: at most 12 players. -/
import Derived.Test.YteeplmnjipddaaaWays3
namespace Go.Proofs.Yteeplmnjipddaaa
set_option linter.unusedSimpArgs false
set_option linter.unusedVariables false
open Go.RowKit Go.WideShapes

def sumW (f : Nat → Int) : Nat → Int
  | 0 => 0
  | k + 1 => sumW f k + f k
theorem sumW_bd {f : Nat → Int} {M : Int} (hM : 0 ≤ M) : ∀ k, (∀ i, i < k → 0 ≤ f i ∧ f i ≤ M) → 0 ≤ sumW f k ∧ sumW f k ≤ (k : Int) * M
  | 0, _ => by simp [sumW]
  | k + 1, h => by
    obtain ⟨a, b⟩ := sumW_bd hM k (fun i hi => h i (by omega))
    obtain ⟨c, d⟩ := h k (by omega)
    rw [sumW, Int.natCast_add, Int.add_mul]
    omega
/-- In how many ways 2 d players can be paired. -/
def waysN (met : Int → Int → Bool) : Nat → List Int → Int
  | 0, _ => 1
  | d + 1, l => sumW (fun i => if met (l.getD 0 0) (l.getD (i + 1) 0) then 0 else waysN met d (witho l (i + 1))) (2 * d + 1)
def dfac : Nat → Int
  | 0 => 1
  | d + 1 => ((2 * d + 1 : Nat) : Int) * dfac d
theorem dfac_pos : ∀ d, 0 ≤ dfac d
  | 0 => by decide
  | d + 1 => by rw [dfac]; exact Int.mul_nonneg (by omega) (dfac_pos d)
theorem waysN_bd (met : Int → Int → Bool) : ∀ d l, 0 ≤ waysN met d l ∧ waysN met d l ≤ dfac d
  | 0, l => by rw [waysN, dfac]; decide
  | d + 1, l => by
    rw [waysN, dfac]
    refine sumW_bd (dfac_pos d) _ (fun i _ => ?_)
    have h0 := dfac_pos d
    have h := waysN_bd met d (witho l (i + 1))
    split
    · exact ⟨Int.le_refl _, h0⟩
    · exact h
def wayF (met : Int → Int → Bool) (d : Nat) (l : List Int) (i : Nat) : Int := if met (l.getD 0 0) (l.getD (i + 1) 0) then 0 else waysN met d (witho l (i + 1))
theorem waysN_succ (met : Int → Int → Bool) (d : Nat) (l : List Int) : waysN met (d + 1) l = sumW (wayF met d l) (2 * d + 1) := rfl
theorem dfac_small {d : Nat} (h : d ≤ 5) : dfac d ≤ 945 := by
  have : d = 0 ∨ d = 1 ∨ d = 2 ∨ d = 3 ∨ d = 4 ∨ d = 5 := by omega
  rcases this with rfl | rfl | rfl | rfl | rfl | rfl <;> decide
theorem wayF_bd {met : Int → Int → Bool} {d : Nat} (h : d ≤ 5) (l : List Int) (i : Nat) : 0 ≤ wayF met d l i ∧ wayF met d l i ≤ 945 := by
  have h1 := waysN_bd met d (witho l (i + 1))
  have h2 := dfac_small h
  unfold wayF
  split
  · decide
  · omega
theorem sumW_small {met : Int → Int → Bool} {d : Nat} (h : d ≤ 5) (l : List Int) {k : Nat} (hk : k ≤ 11) : 0 ≤ sumW (wayF met d l) k ∧ sumW (wayF met d l) k ≤ 10395 := by
  obtain ⟨a, b⟩ := sumW_bd (f := wayF met d l) (M := 945) (by decide) k (fun i _ => wayF_bd h l i)
  have : (k : Int) * 945 ≤ 11 * 945 := by omega
  exact ⟨a, by omega⟩
set_option maxRecDepth 10000 in
set_option maxHeartbeats 4000000 in
theorem ways_any (zs : List Int) (c g : Nat) : ∀ d, d ≤ 6 → ∀ (A : Option Addr) (n cp : Nat) (l : List Int) (w : World), n = 2 * d → n ≤ cp → cp ≤ maxLen → Sl w w.heap.size 1 A n (l.map (Value.int .i64)) → (∀ x ∈ l, 0 ≤ x ∧ x < 12) → Blk w g 99 (metC zs c) →
    Calls Try.prog 51 #[.pointer (some ⟨g, 0, none⟩), .slice A n cp] w fun e w' => e = .returned (.int .i64 (waysN (fun a b => metB zs a b c) d l)) ∧ Below w.heap.size w w'
  | 0, _, A, n, cp, l, w, hn, h1, h2, h3, h4, h5 => by
    obtain rfl : n = 0 := by omega
    clear hn h1 h2 h3 h4 h5
    go_enter Try.func51, Try.ntmps51
    go_wp2
    go_ret
    exact ⟨rfl, by (repeat' (first | (with_reducible exact Below.refl _ _) | (with_reducible assumption) | (with_reducible refine Below.alloc ?_ ?_ _) | (with_reducible refine Below.drew ?_) | (with_reducible refine belowDrewN ?_ _) | (with_reducible refine Below.setCell ?_ ?_ _) | (with_reducible refine Below.via (by with_reducible assumption) ?_ ?_) | (with_reducible refine Below.viaD (by with_reducible assumption) ?_ ?_) | (with_reducible exact Below.size (by with_reducible assumption)) | go_size | (with_reducible refine Nat.le_trans ?_ (Below.size (by with_reducible assumption))) | (with_reducible refine Nat.le_trans ?_ (sizeAlloc _ _)) | (with_reducible refine Nat.le_trans ?_ (sizeSet _ _ _)) | (with_reducible refine Nat.le_trans ?_ (sizeDrew _))))⟩
  | d + 1, hd, A, n, cp, l, w, hn, hnc, hcm, hs, hl, hblk => by
    have HL := Lib.hid hl
    have HS := Lib.hid hs
    have HK := Lib.hid hblk
    have HN := Lib.hid hn
    have IH := Lib.hid (ways_any zs c g d (by omega))
    have hlen := hs.ints
    have HLEN := Lib.hid hlen
    have hn0 : ((n : Int) == 0) = false := by rw [beq_eq_false_iff_ne]; omega
    have hn12 : n ≤ 12 := by omega
    have hn2 : 2 ≤ n := by omega
    obtain ⟨F, hF⟩ : ∃ F, wayF (fun a b => metB zs a b c) d l = F := ⟨_, rfl⟩
    have HF := Lib.hid hF
    have HSM : Hid (∀ k, k ≤ 11 → 0 ≤ sumW F k ∧ sumW F k ≤ 10395) := fun k hk => by rw [← hF]; exact sumW_small (by omega) l hk
    have HF1 : Hid (∀ k, 1 ≤ k → (metB zs (l.getD 0 0) (l.getD k 0) c = true → F (k - 1) = 0) ∧ (metB zs (l.getD 0 0) (l.getD k 0) c = false → F (k - 1) = waysN (fun a b => metB zs a b c) d (witho l k))) := fun k hk => by
      rw [← hF, wayF, show k - 1 + 1 = k by omega]
      exact ⟨fun h => by rw [if_pos h], fun h => by rw [if_neg (by rw [h]; decide)]⟩
    rw [waysN_succ, hF]
    clear hl hs hblk hn hlen hF
    go_enter Try.func51, Try.ntmps51
    go_wp2
    go_loopw [5, 6] (fun s i wr => ∃ k : Nat, 1 ≤ k ∧ k ≤ n ∧ i = .int .i64 k ∧ s = .int .i64 (sumW F (k - 1)) ∧ Below w.heap.size w wr) (fun _ i _ => n - (intOf i).toNat)
    case atStart => exact ⟨1, Nat.le_refl _, by omega, rfl, rfl, Below.refl _ _⟩
    case round =>
      obtain ⟨k, hk1, hk, rfl, rfl, hbl⟩ := hrel
      rename World => wo
      have HBL := Lib.hid hbl
      obtain ⟨s0, s1⟩ := HSM.out (k - 1) (by omega)
      by_cases hlt : k < n
      · have HSo := Lib.hid (HS.out.later hbl)
        obtain ⟨b, off, x, rfl, hb, hx, hc0⟩ := HSo.out.int (show 0 < n by omega)
        obtain ⟨b', off', y, e2, _, hy, hc1⟩ := HSo.out.int hlt
        injection e2 with e2
        injection e2 with e3 e4
        subst e3 e4
        rw [Nat.add_zero] at hc0
        have m0 := HL.out x (by rw [← hx.out]; exact getD_mem 0 (by rw [HLEN.out]; omega))
        have m1 := HL.out y (by rw [← hy.out]; exact getD_mem 0 (by rw [HLEN.out]; omega))
        obtain ⟨X, rfl⟩ := Int.eq_ofNat_of_zero_le m0.1
        obtain ⟨Y, rfl⟩ := Int.eq_ofNat_of_zero_le m1.1
        have hX : X < 12 := by omega
        have hY : Y < 12 := by omega
        have HKo := Lib.hid (HK.out.later hbl)
        have hv := (HKo.out.cell (X * 12 + Y)).trans (metC_at hX hY)
        have hf1 := HF1.out k hk1
        rw [hx.out, hy.out] at hf1
        have hss : sumW F k = sumW F (k - 1) + F (k - 1) := by
          have h : sumW F (k - 1 + 1) = sumW F (k - 1) + F (k - 1) := rfl
          rwa [show k - 1 + 1 = k by omega] at h
        obtain ⟨t0, t1⟩ := HSM.out k (by omega)
        revert hf1 hv s0 s1 hss
        generalize sumW F (k - 1) = S
        generalize F (k - 1) = f
        generalize metB zs X Y c = q
        intro s0 s1 hv hf1 hss
        cases q
        case true =>
          have hf := hf1.1 rfl
          subst hf
          rw [Int.add_zero] at hss
          have HSS := Lib.hid hss
          clear hf1 hss t0 t1 m0 m1 hbl
          go_wp2
          go_region
          go_wp2
          have hbl := HBL.out
          go_roundw
          case rel => exact ⟨k + 1, by omega, by omega, by go_num, by rw [show k + 1 - 1 = k by omega, HSS.out], by (repeat' (first | (with_reducible exact Below.refl _ _) | (with_reducible assumption) | (with_reducible refine Below.alloc ?_ ?_ _) | (with_reducible refine Below.drew ?_) | (with_reducible refine belowDrewN ?_ _) | (with_reducible refine Below.setCell ?_ ?_ _) | (with_reducible refine Below.via (by with_reducible assumption) ?_ ?_) | (with_reducible refine Below.viaD (by with_reducible assumption) ?_ ?_) | (with_reducible exact Below.size (by with_reducible assumption)) | go_size | (with_reducible refine Nat.le_trans ?_ (Below.size (by with_reducible assumption))) | (with_reducible refine Nat.le_trans ?_ (sizeAlloc _ _)) | (with_reducible refine Nat.le_trans ?_ (sizeSet _ _ _)) | (with_reducible refine Nat.le_trans ?_ (sizeDrew _))))⟩
          case measure => first | (simp [intOf]; done) | (simp [intOf]; omega)
        case false =>
          have hf := hf1.2 rfl
          have HSS := Lib.hid hss
          have HFF := Lib.hid hf
          have hsw : IntKind.i64.wrap (S + f) = S + f := IntWalk.i64_in _ (by omega)
          clear hf1 hss hf t0 t1 m0 m1 hbl
          go_wp2
          go_region
          clear hv hc0 hc1
          go_wp2_with fail
          refine (without_any _ n cp k l _ (by exact HSo.out.drew) hn12 hnc hcm hk1 hlt).mono ?_
          rintro e w1 ⟨v, rfl, hown, hb1⟩
          obtain ⟨A1, g1, cap1, rfl, hg1, hnc1, hcm1, ho1⟩ := own_of_row hown
          have SL1 := Lib.hid ho1.sl
          have K1 := Lib.hid ((HKo.out.later (belowDrewN (Below.refl _ _) 1)).later hb1)
          have B1 := Lib.hid (Below.viaD hb1 HBL.out HBL.out.size)
          have hz1 := B1.out.size
          clear hown hb1 ho1
          go_wp2_with fail
          refine (IH.out A1 (n - 2) cap1 (witho l k) _ (by have := HN.out; omega) hnc1 hcm1 SL1.out (fun x hx => HL.out x (witho_mem hx)) K1.out).mono ?_
          rw [← HFF.out]
          rintro e w2 ⟨rfl, hb2⟩
          have hbl := Below.via hb2 B1.out hz1
          clear hb2
          go_wp2_with fail
          go_roundw
          case rel => exact ⟨k + 1, by omega, by omega, by go_num, by rw [show k + 1 - 1 = k by omega, HSS.out], by (repeat' (first | (with_reducible exact Below.refl _ _) | (with_reducible assumption) | (with_reducible refine Below.alloc ?_ ?_ _) | (with_reducible refine Below.drew ?_) | (with_reducible refine belowDrewN ?_ _) | (with_reducible refine Below.setCell ?_ ?_ _) | (with_reducible refine Below.via (by with_reducible assumption) ?_ ?_) | (with_reducible refine Below.viaD (by with_reducible assumption) ?_ ?_) | (with_reducible exact Below.size (by with_reducible assumption)) | go_size | (with_reducible refine Nat.le_trans ?_ (Below.size (by with_reducible assumption))) | (with_reducible refine Nat.le_trans ?_ (sizeAlloc _ _)) | (with_reducible refine Nat.le_trans ?_ (sizeSet _ _ _)) | (with_reducible refine Nat.le_trans ?_ (sizeDrew _))))⟩
          case measure => first | (simp [intOf]; done) | (simp [intOf]; omega)
      · obtain rfl : k = n := by omega
        have HNN := Lib.hid (show k - 1 = 2 * d + 1 by have := HN.out; omega)
        rw [HNN.out] at s0 s1
        go_wp2
        go_ret
        exact ⟨by rw [HNN.out]; rfl, hbl⟩
end Go.Proofs.Yteeplmnjipddaaa
