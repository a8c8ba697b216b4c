/- ByeOf: both functions, and the law. No conditions. -/
import Derived.Test.YtpdmacklipcmkaaPair1
namespace Go.Proofs.Ytpdmacklipcmkaa
set_option linter.unusedSimpArgs false
set_option linter.unusedVariables false
open Go.RowKit

def byeN (n r : Nat) : Option Nat := firstN n fun a => othN n r a == a
theorem bye_even : ∀ n, n < 13 → ∀ r, r < rdN n → n % 2 = 0 → byeN n r = none := by decide +kernel
theorem bye_odd : ∀ n, n < 13 → ∀ r, r < rdN n → n % 2 = 1 → byeN n r = firstN n fun a => 2 * a % n == r := by decide +kernel
def byeC (n r : Int) : Int := if okR n r then ((byeN n.toNat r.toNat).getD 0 : Nat) else 0
def byeE (n r : Int) : Int := if okR n r then (if (byeN n.toNat r.toNat).isSome then 0 else 3) else 2
theorem bye_no {n r : Int} (h : okR n r = false) : byeC n r = 0 ∧ byeE n r = 2 := by rw [byeC, byeE, h]; exact ⟨rfl, rfl⟩
theorem bye_none {n r : Nat} (h : okR n r = true) (hb : byeN n r = none) : byeC n r = 0 ∧ byeE n r = 3 := by
  rw [byeC, byeE, h, Int.toNat_natCast, Int.toNat_natCast, hb]; exact ⟨rfl, rfl⟩
theorem bye_some {n r a : Nat} (h : okR n r = true) (hb : byeN n r = some a) : byeC n r = a ∧ byeE n r = 0 := by
  rw [byeC, byeE, h, Int.toNat_natCast, Int.toNat_natCast, hb]; exact ⟨rfl, rfl⟩
theorem oth_bd {n r p : Nat} (h : 2 ≤ n) : othN n r p ≤ n := by
  obtain ⟨m1, m2, m3⟩ := rdN_bd h
  unfold othN
  split
  · generalize hf : firstN (rdN n) (fun k => 2 * k % rdN n == r) = f
    cases f with
    | none => exact Nat.zero_le _
    | some k =>
      unfold firstN at hf
      rw [List.find?_range_eq_some] at hf
      have := hf.2.1
      simp at this
      exact Nat.le_trans (Nat.le_of_lt this) m2
  · split
    · exact m2
    · have := Nat.mod_lt (r + rdN n - p) (show 0 < rdN n by omega); omega

set_option maxHeartbeats 400000 in
theorem sByeOf_any (n r : Int) (w : World) : Calls Try.prog 11 #[.int .i64 n, .int .i64 r] w fun e w' => e = .returned (.tuple #[.int .i64 (byeC n r), .int .i64 (byeE n r)]) ∧ w = w' := by
  cases hok : okR n r
  · obtain ⟨e1, e2⟩ := bye_no hok
    have H1 := Lib.hid e1
    have H2 := Lib.hid e2
    have hc := codeR_f hok
    clear e1 e2 hok
    go_enter Try.func11, Try.ntmps11
    go_wp2_with (go_at_call 37; refine (l24Code_any _ _ _).mono ?_; rintro e w_ ⟨rfl, rfl⟩)
    go_ret2
    exact ⟨by rw [H1.out, H2.out]; rfl, rfl⟩
  · obtain ⟨k, j, rfl, rfl, k1, k2, hj⟩ := okR_of hok
    have hc := codeR_t hok
    have HO := Lib.hid hok
    clear hok
    go_enter Try.func11, Try.ntmps11
    go_wp2_with (go_at_call 37; refine (l24Code_any _ _ _).mono ?_; rintro e w_ ⟨rfl, rfl⟩)
    clear hc
    go_loop [7] (fun i => ∃ a : Nat, a ≤ k ∧ i = .int .i64 a ∧ Hid (∀ b, b < a → (othN k j b == b) = false)) (fun i => k - (intOf i).toNat)
    case atStart => exact ⟨0, Nat.zero_le _, rfl, fun b hb => absurd hb (by omega)⟩
    case round =>
      obtain ⟨a, ha, rfl, hpre⟩ := hrel
      by_cases hlt : a < k
      · have ob := oth_bd (n := k) (r := j) (p := a) k1
        cases ht : (othN k j a == a)
        · have hq : ((othN k j a : Int) == (a : Int)) = false := by rw [beq_eq_false_iff_ne] at ht ⊢; omega
          have HT := Lib.hid ht
          clear ht
          go_wp2_with (go_at_call 38; refine (l24Other_any k j a _ k1 k2 hj hlt).mono ?_; rintro e w_ ⟨rfl, rfl⟩)
          go_round
          case rel =>
            refine ⟨a + 1, by omega, by go_num, fun b hb => ?_⟩
            rcases Nat.lt_or_ge b a with h' | h'
            · exact hpre.out b h'
            · obtain rfl : b = a := by omega
              exact HT.out
          case measure => first | (simp [intOf]; done) | (simp [intOf]; omega)
        · have hq : ((othN k j a : Int) == (a : Int)) = true := by rw [beq_iff_eq] at ht ⊢; omega
          obtain ⟨e1, e2⟩ := bye_some (a := a) HO.out (firstN_some hlt ht hpre.out)
          have H1 := Lib.hid e1
          have H2 := Lib.hid e2
          clear e1 e2 ht
          go_wp2_with (go_at_call 38; refine (l24Other_any k j a _ k1 k2 hj hlt).mono ?_; rintro e w_ ⟨rfl, rfl⟩)
          go_ret2
          exact ⟨by rw [H1.out, H2.out]; rfl, rfl⟩
      · obtain rfl : a = k := by omega
        obtain ⟨e1, e2⟩ := bye_none HO.out (firstN_none hpre.out)
        have H1 := Lib.hid e1
        have H2 := Lib.hid e2
        clear e1 e2
        go_wp2_with fail
        go_ret2
        exact ⟨by rw [H1.out, H2.out]; rfl, rfl⟩
set_option maxHeartbeats 400000 in
theorem ByeOf_any (n r : Int) (w : World) : Calls Try.prog 10 #[.int .i64 n, .int .i64 r] w fun e w' => e = .returned (.tuple #[.int .i64 (byeC n r), .int .i64 (byeE n r)]) ∧ w = w' := by
  cases hn : inB n 2 12
  · obtain ⟨e1, e2⟩ := bye_no (n := n) (r := r) (by rw [okR, hn]; rfl)
    have H1 := Lib.hid e1
    have H2 := Lib.hid e2
    clear e1 e2
    go_enter Try.func10, Try.ntmps10
    go_wp2_with (go_at_call 32; refine (isCount_any _ _).mono ?_; rintro e w_ ⟨rfl, rfl⟩)
    go_ret2
    exact ⟨by rw [H1.out, H2.out]; rfl, rfl⟩
  · obtain ⟨k, rfl, k1, k2⟩ := nat_of hn
    obtain ⟨m1, m2, m3⟩ := rdN_bd k1
    cases hr : inB r 0 ((rdN k : Int) - 1)
    · obtain ⟨e1, e2⟩ := bye_no (n := k) (r := r) (by rw [okR, hn, Int.toNat_natCast, hr]; rfl)
      have H1 := Lib.hid e1
      have H2 := Lib.hid e2
      clear e1 e2
      go_enter Try.func10, Try.ntmps10
      go_wp2_with (first | (go_at_call 32; refine (isCount_any _ _).mono ?_; rintro e w_ ⟨rfl, rfl⟩) | (go_at_call 34; refine (rounds_any k _ k1 k2).mono ?_; rintro e w_ ⟨rfl, rfl⟩) | (go_at_call 33; refine (between_any _ _ _ _).mono ?_; rintro e w_ ⟨rfl, rfl⟩))
      go_ret2
      exact ⟨by rw [H1.out, H2.out]; rfl, rfl⟩
    · have hok : okR k r = true := by rw [okR, hn, Int.toNat_natCast, hr]; rfl
      have HO := Lib.hid hok
      obtain ⟨r1, r2⟩ := inB_of hr
      obtain ⟨j, rfl⟩ := Int.eq_ofNat_of_zero_le r1
      have hj : j < rdN k := by omega
      clear hok
      by_cases hev : k % 2 = 0
      · obtain ⟨e1, e2⟩ := bye_none HO.out (bye_even k (by omega) j hj hev)
        have H1 := Lib.hid e1
        have H2 := Lib.hid e2
        have hq : (((k : Int) % 2) == 0) = true := by rw [beq_iff_eq]; omega
        clear e1 e2 hev
        go_enter Try.func10, Try.ntmps10
        go_wp2_with (first | (go_at_call 32; refine (isCount_any _ _).mono ?_; rintro e w_ ⟨rfl, rfl⟩) | (go_at_call 34; refine (rounds_any k _ k1 k2).mono ?_; rintro e w_ ⟨rfl, rfl⟩) | (go_at_call 33; refine (between_any _ _ _ _).mono ?_; rintro e w_ ⟨rfl, rfl⟩))
        go_ret2
        exact ⟨by rw [H1.out, H2.out]; rfl, rfl⟩
      · have HB := Lib.hid (bye_odd k (by omega) j hj (by omega))
        have hq : (((k : Int) % 2) == 0) = false := by rw [beq_eq_false_iff_ne]; omega
        clear hev
        go_enter Try.func10, Try.ntmps10
        go_wp2_with (first | (go_at_call 32; refine (isCount_any _ _).mono ?_; rintro e w_ ⟨rfl, rfl⟩) | (go_at_call 34; refine (rounds_any k _ k1 k2).mono ?_; rintro e w_ ⟨rfl, rfl⟩) | (go_at_call 33; refine (between_any _ _ _ _).mono ?_; rintro e w_ ⟨rfl, rfl⟩))
        go_loop [22] (fun i => ∃ a : Nat, a ≤ k ∧ i = .int .i64 a ∧ Hid (∀ b, b < a → (2 * b % k == j) = false)) (fun i => k - (intOf i).toNat)
        case atStart => exact ⟨0, Nat.zero_le _, rfl, fun b hb => absurd hb (by omega)⟩
        case round =>
          obtain ⟨a, ha, rfl, hpre⟩ := hrel
          by_cases hlt : a < k
          · cases ht : (2 * a % k == j)
            · have hq2 : ((2 * (a : Int) % (k : Int)) == (j : Int)) = false := by rw [beq_eq_false_iff_ne] at ht ⊢; rw [two_mod]; omega
              have HT := Lib.hid ht
              clear ht
              go_wp2_with fail
              go_round
              case rel =>
                refine ⟨a + 1, by omega, by go_num, fun b hb => ?_⟩
                rcases Nat.lt_or_ge b a with h' | h'
                · exact hpre.out b h'
                · obtain rfl : b = a := by omega
                  exact HT.out
              case measure => first | (simp [intOf]; done) | (simp [intOf]; omega)
            · have hq2 : ((2 * (a : Int) % (k : Int)) == (j : Int)) = true := by rw [beq_iff_eq] at ht ⊢; rw [two_mod]; omega
              obtain ⟨e1, e2⟩ := bye_some (a := a) HO.out (by rw [HB.out]; exact firstN_some hlt ht hpre.out)
              have H1 := Lib.hid e1
              have H2 := Lib.hid e2
              clear e1 e2 ht
              go_wp2_with fail
              go_ret2
              exact ⟨by rw [H1.out, H2.out]; rfl, rfl⟩
          · obtain rfl : a = k := by omega
            obtain ⟨e1, e2⟩ := bye_none HO.out (by rw [HB.out]; exact firstN_none hpre.out)
            have H1 := Lib.hid e1
            have H2 := Lib.hid e2
            clear e1 e2
            go_wp2_with fail
            go_ret2
            exact ⟨by rw [H1.out, H2.out]; rfl, rfl⟩
end Go.Proofs.Ytpdmacklipcmkaa
