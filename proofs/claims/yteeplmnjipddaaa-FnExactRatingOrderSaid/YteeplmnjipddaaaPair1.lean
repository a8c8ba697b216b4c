/- Rounds, the other player of a round, byes: both functions. Conditions: 2 to 12 players. -/
import Derived.Test.YteeplmnjipddaaaNum
import Derived.BigQuiet
import Derived.Deep.QuietTactic
namespace Go.Proofs.Yteeplmnjipddaaa
set_option linter.unusedSimpArgs false
set_option linter.unusedVariables false
open Go.RowKit

theorem l24PlayersR_any (n : Int) (w : World) : Calls Try.prog 60 #[.int .i64 n] w fun e w' => e = .returned (.bool (inB n 2 12)) ∧ w = w' := by
  go_enter Try.func60, Try.ntmps60
  go_wp2_with (go_at_call 54; refine (l00In_any _ _ _ _).mono ?_; rintro e w_ ⟨rfl, rfl⟩)
  go_ret
  exact ⟨rfl, rfl⟩
theorem isCountR_any (n : Int) (w : World) : Calls Try.prog 62 #[.int .i64 n] w fun e w' => e = .returned (.bool (inB n 2 12)) ∧ w = w' := by
  go_enter Try.func62, Try.ntmps62
  go_wp2_with (go_at_call 63; refine (between_any _ _ _ _).mono ?_; rintro e w_ ⟨rfl, rfl⟩)
  go_ret
  exact ⟨rfl, rfl⟩
def rdN (n : Nat) : Nat := if n % 2 = 0 then n - 1 else n
theorem rdN_bd {n : Nat} (h : 2 ≤ n) : 1 ≤ rdN n ∧ rdN n ≤ n ∧ n ≤ rdN n + 1 := by unfold rdN; split <;> omega
theorem rdN_int {n : Nat} (h : 2 ≤ n) : (n : Int) - 1 + (n : Int) % 2 = (rdN n : Int) := by unfold rdN; split <;> omega
theorem l24Rounds_any (n : Nat) (w : World) (h : 2 ≤ n) (h2 : n ≤ 12) : Calls Try.prog 84 #[.int .i64 n] w fun e w' => e = .returned (.int .i64 (rdN n)) ∧ w = w' := by
  have H := Lib.hid (rdN_int h)
  go_enter Try.func84, Try.ntmps84
  go_wp2
  go_ret
  exact ⟨by rw [← H.out]; rfl, rfl⟩
/-- The first k below m with p k. -/
def firstN (m : Nat) (p : Nat → Bool) : Option Nat := (List.range m).find? p
theorem firstN_some {m k : Nat} {p : Nat → Bool} (hk : k < m) (h : p k = true) (hb : ∀ j, j < k → p j = false) : firstN m p = some k := by
  unfold firstN
  rw [List.find?_range_eq_some]
  exact ⟨h, by simpa using hk, fun j hj => by simp [hb j hj]⟩
theorem firstN_none {m : Nat} {p : Nat → Bool} (hb : ∀ j, j < m → p j = false) : firstN m p = none := by
  unfold firstN
  rw [List.find?_range_eq_none]
  intro j hj
  simp [hb j hj]
def othN (n r p : Nat) : Nat :=
  if p = rdN n then (firstN (rdN n) fun k => 2 * k % rdN n == r).getD 0
  else if (r + rdN n - p) % rdN n = p ∧ n % 2 = 0 then rdN n else (r + rdN n - p) % rdN n
theorem two_mod (k m : Nat) : 2 * (k : Int) % (m : Int) = ((2 * k % m : Nat) : Int) := by rw [Int.natCast_emod]; rfl
theorem oth_hit : ∀ n, n < 13 → ∀ r, r < rdN n → rdN n + 1 = n → ∃ k, k < rdN n ∧ 2 * k % rdN n = r := by decide +kernel
set_option maxHeartbeats 400000 in
theorem l24Other_any (n r p : Nat) (w : World) (h : 2 ≤ n) (h2 : n ≤ 12) (hr : r < rdN n) (hp : p < n) : Calls Try.prog 88 #[.int .i64 n, .int .i64 r, .int .i64 p] w fun e w' => e = .returned (.int .i64 (othN n r p)) ∧ w = w' := by
  obtain ⟨m1, m2, m3⟩ := rdN_bd h
  by_cases hpm : p = rdN n
  case pos =>
    obtain ⟨k0, hk0, hk1⟩ := oth_hit n (by omega) r hr (by omega)
    have HK := Lib.hid hk1
    have HP := Lib.hid hpm
    have hq : ((p : Int) == (rdN n : Int)) = true := by rw [beq_iff_eq]; omega
    clear hk1 hpm
    go_enter Try.func88, Try.ntmps88
    go_wp2_with (go_at_call 84; refine (l24Rounds_any n _ h h2).mono ?_; rintro e w_ ⟨rfl, rfl⟩)
    go_loop [8] (fun i => ∃ k : Nat, k ≤ rdN n ∧ i = .int .i64 k ∧ Hid (∀ j, j < k → (2 * j % rdN n == r) = false)) (fun i => rdN n - (intOf i).toNat)
    case atStart => exact ⟨0, Nat.zero_le _, rfl, fun j hj => absurd hj (by omega)⟩
    case round =>
      obtain ⟨k, hk, rfl, hpre⟩ := hrel
      have hlt : k < rdN n := by
        rcases Nat.lt_or_ge k (rdN n) with h' | h'
        · exact h'
        · have := hpre.out k0 (by omega)
          rw [HK.out] at this
          simp at this
      cases ht : (2 * k % rdN n == r)
      · have hq2 : ((2 * (k : Int) % (rdN n : Int)) == (r : Int)) = false := by
          rw [beq_eq_false_iff_ne] at ht ⊢
          rw [two_mod]
          omega
        have HT := Lib.hid ht
        clear ht
        go_wp2
        go_round
        case rel =>
          refine ⟨k + 1, by omega, by go_num, fun j hj => ?_⟩
          rcases Nat.lt_or_ge j k with h' | h'
          · exact hpre.out j h'
          · obtain rfl : j = k := by omega
            exact HT.out
        case measure => first | (simp [intOf]; done) | (simp [intOf]; omega)
      · have hq2 : ((2 * (k : Int) % (rdN n : Int)) == (r : Int)) = true := by
          rw [beq_iff_eq] at ht ⊢
          rw [two_mod]
          omega
        have HE : Hid (othN n r p = k) := by
          unfold Hid
          rw [othN, if_pos HP.out, firstN_some hlt ht hpre.out]
          rfl
        clear ht
        go_wp2
        go_ret
        exact ⟨by rw [HE.out]; rfl, rfl⟩
  case neg =>
    have hq : ((p : Int) == (rdN n : Int)) = false := by rw [beq_eq_false_iff_ne]; omega
    have hpl : p < rdN n := by omega
    obtain ⟨o, ho⟩ : ∃ o, (r + rdN n - p) % rdN n = o := ⟨_, rfl⟩
    have hoi : ((r : Int) - (p : Int) + (rdN n : Int)) % (rdN n : Int) = (o : Int) := by
      rw [← ho, Int.natCast_emod]
      congr 1
      omega
    have hE : othN n r p = if o = p ∧ n % 2 = 0 then rdN n else o := by rw [othN, if_neg hpm, ho]
    have HE := Lib.hid hE
    have ob : o ≤ 12 := by have := Nat.mod_lt (r + rdN n - p) (show 0 < rdN n by omega); omega
    clear hE hpm ho
    by_cases hop : o = p
    · have q1 : ((o : Int) == (p : Int)) = true := by rw [beq_iff_eq]; omega
      by_cases hev : n % 2 = 0
      · have q2 : (((n : Int) % 2) == 0) = true := by rw [beq_iff_eq]; omega
        have HF : Hid (othN n r p = rdN n) := by unfold Hid; rw [HE.out, if_pos ⟨hop, hev⟩]
        clear hop hev
        go_enter Try.func88, Try.ntmps88
        go_wp2_with (go_at_call 84; refine (l24Rounds_any n _ h h2).mono ?_; rintro e w_ ⟨rfl, rfl⟩)
        go_ret
        exact ⟨by first | (rw [HF.out]; rfl) | (rw [HF.out, ← hoi]; rfl), rfl⟩
      · have q2 : (((n : Int) % 2) == 0) = false := by rw [beq_eq_false_iff_ne]; omega
        have HF : Hid (othN n r p = o) := by unfold Hid; rw [HE.out, if_neg (fun h => hev h.2)]
        clear hop hev
        go_enter Try.func88, Try.ntmps88
        go_wp2_with (go_at_call 84; refine (l24Rounds_any n _ h h2).mono ?_; rintro e w_ ⟨rfl, rfl⟩)
        go_ret
        exact ⟨by first | (rw [HF.out]; rfl) | (rw [HF.out, ← hoi]; rfl), rfl⟩
    · have q1 : ((o : Int) == (p : Int)) = false := by rw [beq_eq_false_iff_ne]; omega
      have HF : Hid (othN n r p = o) := by unfold Hid; rw [HE.out, if_neg (fun h => hop h.1)]
      clear hop
      go_enter Try.func88, Try.ntmps88
      go_wp2_with (go_at_call 84; refine (l24Rounds_any n _ h h2).mono ?_; rintro e w_ ⟨rfl, rfl⟩)
      go_ret
      exact ⟨by first | (rw [HF.out]; rfl) | (rw [HF.out, ← hoi]; rfl), rfl⟩
/-- Rounds: the number, the code. -/
def rcC (n : Int) : Int := if inB n 2 12 then (rdN n.toNat : Int) else 0
def rcE (n : Int) : Int := if inB n 2 12 then 0 else 2
theorem nat_of {n : Int} (h : inB n 2 12 = true) : ∃ k : Nat, n = k ∧ 2 ≤ k ∧ k ≤ 12 := by
  obtain ⟨h1, h2⟩ := inB_of h
  exact ⟨n.toNat, by omega, by omega, by omega⟩
/-- A number of players and a round of theirs. -/
def okR (n r : Int) : Bool := inB n 2 12 && inB r 0 ((rdN n.toNat : Int) - 1)
theorem okR_of {n r : Int} (h : okR n r = true) : ∃ k j : Nat, n = k ∧ r = j ∧ 2 ≤ k ∧ k ≤ 12 ∧ j < rdN k := by
  rw [okR, Bool.and_eq_true] at h
  obtain ⟨k, rfl, k1, k2⟩ := nat_of h.1
  obtain ⟨h1, h2⟩ := inB_of h.2
  simp only [Int.toNat_natCast] at h2
  exact ⟨k, r.toNat, rfl, by omega, k1, k2, by omega⟩
def codeR (n r : Int) : Int := if okR n r then 0 else 2
theorem codeR_t {n r : Int} (h : okR n r = true) : codeR n r = 0 := by rw [codeR, if_pos h]
theorem codeR_f {n r : Int} (h : okR n r = false) : codeR n r = 2 := by rw [codeR, h]; rfl
theorem l24Code_any (n r : Int) (w : World) : Calls Try.prog 87 #[.int .i64 n, .int .i64 r] w fun e w' => e = .returned (.int .i64 (codeR n r)) ∧ w = w' := by
  cases h : inB n 2 12
  · have H : Hid (codeR n r = 2) := codeR_f (by rw [okR, h]; rfl)
    go_enter Try.func87, Try.ntmps87
    go_wp2_with (go_at_call 60; refine (l24PlayersR_any _ _).mono ?_; rintro e w_ ⟨rfl, rfl⟩)
    go_ret
    exact ⟨by rw [H.out]; rfl, rfl⟩
  · obtain ⟨k, rfl, k1, k2⟩ := nat_of h
    obtain ⟨m1, m2, m3⟩ := rdN_bd k1
    cases h2 : inB r 0 ((rdN k : Int) - 1)
    · have H : Hid (codeR k r = 2) := codeR_f (by rw [okR, h, Int.toNat_natCast, h2]; rfl)
      go_enter Try.func87, Try.ntmps87
      go_wp2_with (first | (go_at_call 60; refine (l24PlayersR_any _ _).mono ?_; rintro e w_ ⟨rfl, rfl⟩) | (go_at_call 84; refine (l24Rounds_any k _ k1 k2).mono ?_; rintro e w_ ⟨rfl, rfl⟩) | (go_at_call 54; refine (l00In_any _ _ _ _).mono ?_; rintro e w_ ⟨rfl, rfl⟩))
      go_ret
      exact ⟨by rw [H.out]; rfl, rfl⟩
    · have H : Hid (codeR k r = 0) := codeR_t (by rw [okR, h, Int.toNat_natCast, h2]; rfl)
      go_enter Try.func87, Try.ntmps87
      go_wp2_with (first | (go_at_call 60; refine (l24PlayersR_any _ _).mono ?_; rintro e w_ ⟨rfl, rfl⟩) | (go_at_call 84; refine (l24Rounds_any k _ k1 k2).mono ?_; rintro e w_ ⟨rfl, rfl⟩) | (go_at_call 54; refine (l00In_any _ _ _ _).mono ?_; rintro e w_ ⟨rfl, rfl⟩))
      go_ret
      exact ⟨by rw [H.out]; rfl, rfl⟩
end Go.Proofs.Yteeplmnjipddaaa
