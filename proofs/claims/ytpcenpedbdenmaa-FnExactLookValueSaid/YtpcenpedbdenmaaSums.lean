/- Sums of seeds; places of positions. Conditions: lengths below 2^20. -/
import Derived.Test.YtpcenpedbdenmaaRuOk
import Derived.Test.YtpcenpedbdenmaaPositionX
namespace Go.Proofs.Ytpcenpedbdenmaa
set_option linter.unusedSimpArgs false
set_option linter.unusedVariables false
open Go.RowKit

def psum (zs : List Int) : Nat → Int
  | 0 => 0
  | k + 1 => psum zs k + zs.getD k 0
def okL (zs : List Int) : Bool := zs.all (fun z => inB z 0 96)
def sumR (zs : List Int) (n : Nat) : Int × Bool := if okL zs then (psum zs n, true) else (0, false)
def sumS (zs : List Int) (n : Nat) : Int := if okL zs && decide (psum zs n ≤ 96) then psum zs n else -1
theorem okL_of {zs : List Int} (h : okL zs = true) {j : Nat} (hj : j < zs.length) : 0 ≤ zs.getD j 0 ∧ zs.getD j 0 ≤ 96 := inB_of (List.all_eq_true.1 h _ (getD_mem 0 hj))
theorem psum_bd {zs : List Int} {k : Nat} (h : ∀ j, j < k → inB (zs.getD j 0) 0 96 = true) : 0 ≤ psum zs k ∧ psum zs k ≤ 96 * (k : Int) := by
  induction k with
  | zero => simp [psum]
  | succ k ih =>
    have h1 := ih (fun j hj => h j (by omega))
    have h2 := inB_of (h k (by omega))
    rw [psum]
    omega
theorem sumR_f {zs : List Int} {n k : Nat} (hk : k < zs.length) (h : inB (zs.getD k 0) 0 96 = false) : sumR zs n = (0, false) := by
  have : okL zs = false := all_false hk h
  rw [sumR, this]; rfl
theorem okL_t {zs : List Int} (h : ∀ j, j < zs.length → inB (zs.getD j 0) 0 96 = true) : okL zs = true := all_true (d := 0) h
theorem pairB {x x' : Int} {z z' : Bool} (h : (x', z') = (x, z)) : x' = x ∧ z' = z := by
  injection h with h1 h2
  exact ⟨h1, h2⟩
set_option maxHeartbeats 1000000 in
theorem sumOf_any (A : Option Addr) (n c : Nat) (zs : List Int) (w : World) (hs : Sl w w.heap.size 1 A n (zs.map (Value.int .i64))) (hn : n ≤ 1048576) (s : Int) (b : Bool) (hr : sumR zs n = (s, b)) :
    Calls Try.prog 92 #[.slice A n c] w fun e w' => e = .returned (.tuple #[.int .i64 s, .bool b]) ∧ w = w' := by
  have HL := Lib.hid hs.ints
  have HR := Lib.hid hr
  clear hr
  go_enter Try.func92, Try.ntmps92
  go_wp2
  go_loop [4, 9] (fun l i => ∃ k : Nat, k ≤ n ∧ i = .int .i64 k ∧ l = .int .i64 (psum zs k) ∧ Hid (∀ j, j < k → inB (zs.getD j 0) 0 96 = true)) (fun _ i => n - (intOf i).toNat)
  case atStart => exact ⟨0, Nat.zero_le _, rfl, rfl, fun j hj => absurd hj (by omega)⟩
  case round =>
    obtain ⟨k, hk, rfl, rfl, hpre⟩ := hrel
    by_cases hlt : k < n
    · obtain ⟨b, off, z, rfl, hb, HZ, hc⟩ := hs.int hlt
      obtain ⟨p1, p2⟩ := psum_bd hpre.out
      have HP : Hid (psum zs (k + 1) = psum zs k + z) := by unfold Hid; rw [psum, HZ.out]
      revert p1 p2 HP
      generalize psum zs k = u
      intro p1 p2 HP
      cases q : inB z 0 96
      case false =>
        have hE : Hid (sumR zs n = (0, false)) := sumR_f (by rw [HL.out]; exact hlt) (by rw [HZ.out]; exact q)
        obtain ⟨rfl, rfl⟩ := pairB (HR.out.symm.trans hE.out)
        go_wp2_with (go_at_call 44; refine (between_any _ _ _ _).mono ?_; rintro e w_ ⟨rfl, rfl⟩)
        go_ret2
        exact ⟨rfl, rfl⟩
      case true =>
        have HQ := Lib.hid q
        obtain ⟨z1, z2⟩ := inB_of q
        go_wp2_with (go_at_call 44; refine (between_any _ _ _ _).mono ?_; rintro e w_ ⟨rfl, rfl⟩)
        go_round
        case rel =>
          refine ⟨k + 1, by omega, by go_num, by rw [HP.out], fun j hj => ?_⟩
          rcases Nat.lt_or_ge j k with h | h
          · exact hpre.out j h
          · obtain rfl : j = k := by omega
            rw [HZ.out]; exact HQ.out
        case measure => first | (simp [intOf]; done) | (simp [intOf]; omega)
    · obtain rfl : k = n := by omega
      have hE : Hid (sumR zs k = (psum zs k, true)) := by
        unfold Hid
        rw [sumR, okL_t (by rw [HL.out]; exact hpre.out)]; rfl
      obtain ⟨rfl, rfl⟩ := pairB (HR.out.symm.trans hE.out)
      go_wp2
      go_ret2
      exact ⟨rfl, rfl⟩
set_option maxHeartbeats 1000000 in
theorem l04Sum_any (A : Option Addr) (n c : Nat) (zs : List Int) (w : World) (hs : Sl w w.heap.size 1 A n (zs.map (Value.int .i64))) (hn : n ≤ 1048576) (s : Int) (hr : sumS zs n = s) :
    Calls Try.prog 93 #[.slice A n c] w fun e w' => e = .returned (.int .i64 s) ∧ w = w' := by
  have HL := Lib.hid hs.ints
  have HR := Lib.hid hr
  clear hr
  go_enter Try.func93, Try.ntmps93
  go_wp2
  go_loop [3, 4] (fun l i => ∃ k : Nat, k ≤ n ∧ i = .int .i64 k ∧ l = .int .i64 (psum zs k) ∧ Hid (∀ j, j < k → inB (zs.getD j 0) 0 96 = true)) (fun _ i => n - (intOf i).toNat)
  case atStart => exact ⟨0, Nat.zero_le _, rfl, rfl, fun j hj => absurd hj (by omega)⟩
  case round =>
    obtain ⟨k, hk, rfl, rfl, hpre⟩ := hrel
    obtain ⟨p1, p2⟩ := psum_bd hpre.out
    by_cases hlt : k < n
    · obtain ⟨b, off, z, rfl, hb, HZ, hc⟩ := hs.int hlt
      have HP : Hid (psum zs (k + 1) = psum zs k + z) := by unfold Hid; rw [psum, HZ.out]
      revert p1 p2 HP
      generalize psum zs k = u
      intro p1 p2 HP
      cases q : inB z 0 96
      case false =>
        have hE : Hid (sumS zs n = -1) := by
          have h5 : okL zs = false := all_false (by rw [HL.out]; exact hlt) (by rw [HZ.out]; exact q)
          unfold Hid
          rw [sumS, h5]; rfl
        obtain rfl := HR.out.symm.trans hE.out
        go_wp2_with (go_at_call 42; refine (l00In_any _ _ _ _).mono ?_; rintro e w_ ⟨rfl, rfl⟩)
        go_ret
        exact ⟨rfl, rfl⟩
      case true =>
        have HQ := Lib.hid q
        obtain ⟨z1, z2⟩ := inB_of q
        go_wp2_with (go_at_call 42; refine (l00In_any _ _ _ _).mono ?_; rintro e w_ ⟨rfl, rfl⟩)
        go_round
        case rel =>
          refine ⟨k + 1, by omega, by go_num, by rw [HP.out], fun j hj => ?_⟩
          rcases Nat.lt_or_ge j k with h | h
          · exact hpre.out j h
          · obtain rfl : j = k := by omega
            rw [HZ.out]; exact HQ.out
        case measure => first | (simp [intOf]; done) | (simp [intOf]; omega)
    · obtain rfl : k = n := by omega
      have hO : Hid (okL zs = true) := okL_t (by rw [HL.out]; exact hpre.out)
      by_cases h96 : psum zs k ≤ 96
      · have hE : Hid (sumS zs k = psum zs k) := by unfold Hid; rw [sumS, hO.out, decide_eq_true h96]; rfl
        obtain rfl := HR.out.symm.trans hE.out
        go_wp2
        go_ret
        exact ⟨rfl, rfl⟩
      · have hE : Hid (sumS zs k = -1) := by unfold Hid; rw [sumS, decide_eq_false h96, Bool.and_false]; rfl
        obtain rfl := HR.out.symm.trans hE.out
        go_wp2
        go_ret
        exact ⟨rfl, rfl⟩
theorem isPlayer_any (n : Int) (w : World) : Calls Try.prog 91 #[.int .i64 n] w fun e w' => e = .returned (.bool (inB n 0 1)) ∧ w = w' := by
  have hE : Hid (inB n 0 1 = (n == 0 || n == 1)) := by
    unfold Hid
    rw [Bool.eq_iff_iff]
    simp [inB]
    omega
  go_enter Try.func91, Try.ntmps91
  go_wp2
  all_goals
    go_ret
    exact ⟨by rw [hE.out]; first | rfl | simp [*], rfl⟩
end Go.Proofs.Ytpcenpedbdenmaa
