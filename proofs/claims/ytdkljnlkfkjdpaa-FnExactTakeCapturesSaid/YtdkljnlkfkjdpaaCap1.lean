/- Captures: valid seeds after sowing, owners and opposite pits. Conditions: lengths below 2^20. -/
import Derived.Test.YtdkljnlkfkjdpaaSownX
import Derived.Test.YtdkljnlkfkjdpaaEnd1b
import Derived.Test.YtdkljnlkfkjdpaaApp
namespace Go.Proofs.Ytdkljnlkfkjdpaa
set_option linter.unusedSimpArgs false
set_option linter.unusedVariables false
open Go.RowKit

def okLast (r : Ru) (d : SownD) (pl : Int) : Bool := if d.last = -1 then r.st && decide (0 < d.stores.getD pl.toNat 0) else inB d.last 0 (2 * r.p - 1) && decide (0 < d.pits.getD d.last.toNat 0)
def okSown (r : Ru) (d : SownD) (pl : Int) : Bool := inB pl 0 1 && okPos r ⟨d.pits, d.stores, pl⟩ && inB d.laps 1 100 && okLast r d pl
/-- The owner of a pit. -/
def ownI (P k : Nat) : Int := if k < P then 0 else 1
theorem ownI_lt {P k : Nat} (h : k < P) : ownI P k = 0 := if_pos h
theorem ownI_ge {P k : Nat} (h : P ≤ k) : ownI P k = 1 := if_neg (by omega)
theorem own_div {P k : Nat} {o : Int} (h2 : 2 ≤ P) (hk : k < 2 * P) (ho : ownI P k = o) : (k : Int).tdiv (P : Int) = o ∧ 0 ≤ o ∧ o ≤ 1 := by
  subst ho
  rcases Nat.lt_or_ge k P with h | h
  · rw [ownI_lt h]
    refine ⟨?_, by omega, by omega⟩
    rw [← Int.ofNat_tdiv, Nat.div_eq_of_lt h]; rfl
  · rw [ownI_ge h]
    refine ⟨?_, by omega, by omega⟩
    rw [← Int.ofNat_tdiv, show k / P = 1 from Nat.div_eq_of_lt_le (by omega) (by omega)]; rfl
set_option maxHeartbeats 1000000 in
theorem owner_lit (r : Ru) (P k : Nat) (o : Int) (w : World) (hP : r.p = (P : Int)) (h2 : 2 ≤ P) (h8 : P ≤ 8) (hk : k < 2 * P) (ho : ownI P k = o) : Calls Try.prog 54 #[.agg #[.int .i64 r.p, .int .i64 r.s, .bool r.st, .bool r.sk, .bool r.re, .bool r.fe, .bool r.ag, .int .i64 r.ca, .int .i64 r.sl], .int .i64 k] w fun e w' => e = .returned (.int .i64 o) ∧ w' = w.alloc (.cells #[.int .i64 r.p, .int .i64 r.s, .bool r.st, .bool r.sk, .bool r.re, .bool r.fe, .bool r.ag, .int .i64 r.ca, .int .i64 r.sl] 29) := by
  obtain ⟨p, s, st, sk, re, fe, ag, ca, sl⟩ := r
  simp only at hP
  subst hP
  obtain ⟨hd, o0, o1⟩ := own_div h2 hk ho
  clear ho
  have hz : ¬ P = 0 := by omega
  have hz' : ((P : Int) == 0) = false := beq_eq_false_iff_ne.2 (by omega)
  have hw : IntKind.i64.wrap o = o := IntWalk.i64_in _ (by omega)
  go_enter Try.func54, Try.ntmps54
  go_wp2
  go_ret
  exact ⟨rfl, rfl⟩
set_option maxHeartbeats 1000000 in
theorem l02Owner_lit (r : Ru) (P k b of : Nat) (o : Int) (w : World) (hr : RuAt w b of r) (hP : r.p = (P : Int)) (h2 : 2 ≤ P) (h8 : P ≤ 8) (hk : k < 2 * P) (ho : ownI P k = o) : Calls Try.prog 46 #[.pointer (some ⟨b, of, none⟩), .int .i64 k] w fun e w' => e = .returned (.int .i64 o) ∧ w = w' := by
  have r0 := hr.c0
  rw [hP] at r0
  clear hr hP
  obtain ⟨hd, o0, o1⟩ := own_div h2 hk ho
  clear ho
  have hz : ¬ P = 0 := by omega
  have hz' : ((P : Int) == 0) = false := beq_eq_false_iff_ne.2 (by omega)
  have hw : IntKind.i64.wrap o = o := IntWalk.i64_in _ (by omega)
  go_enter Try.func46, Try.ntmps46
  go_wp2
  go_ret
  exact ⟨rfl, rfl⟩
set_option maxHeartbeats 1000000 in
theorem opposite_lit (r : Ru) (P k m : Nat) (w : World) (hP : r.p = (P : Int)) (h2 : 2 ≤ P) (h8 : P ≤ 8) (hk : k + m + 1 = 2 * P) : Calls Try.prog 67 #[.agg #[.int .i64 r.p, .int .i64 r.s, .bool r.st, .bool r.sk, .bool r.re, .bool r.fe, .bool r.ag, .int .i64 r.ca, .int .i64 r.sl], .int .i64 k] w fun e w' => e = .returned (.int .i64 m) ∧ w' = w.alloc (.cells #[.int .i64 r.p, .int .i64 r.s, .bool r.st, .bool r.sk, .bool r.re, .bool r.fe, .bool r.ag, .int .i64 r.ca, .int .i64 r.sl] 29) := by
  obtain ⟨p, s, st, sk, re, fe, ag, ca, sl⟩ := r
  simp only at hP
  subst hP
  have hw1 : IntKind.i64.wrap (2 * (P : Int)) = 2 * (P : Int) := IntWalk.i64_in _ (by omega)
  have hw2 : IntKind.i64.wrap (2 * (P : Int) - 1) = 2 * (P : Int) - 1 := IntWalk.i64_in _ (by omega)
  have hw3 : IntKind.i64.wrap (2 * (P : Int) - 1 - (k : Int)) = (m : Int) := by rw [IntWalk.i64_in _ (by omega)]; omega
  have hm : Hid (2 * (P : Int) - 1 - (k : Int) = (m : Int)) := by unfold Hid; omega
  go_enter Try.func67, Try.ntmps67
  go_wp2
  go_ret
  exact ⟨by first | rfl | rw [hm.out], rfl⟩
set_option maxHeartbeats 1000000 in
theorem l02Opposite_lit (r : Ru) (P k m b of : Nat) (w : World) (hr : RuAt w b of r) (hP : r.p = (P : Int)) (h2 : 2 ≤ P) (h8 : P ≤ 8) (hk : k + m + 1 = 2 * P) : Calls Try.prog 64 #[.pointer (some ⟨b, of, none⟩), .int .i64 k] w fun e w' => e = .returned (.int .i64 m) ∧ w = w' := by
  have r0 := hr.c0
  rw [hP] at r0
  clear hr hP
  have hw1 : IntKind.i64.wrap (2 * (P : Int)) = 2 * (P : Int) := IntWalk.i64_in _ (by omega)
  have hw2 : IntKind.i64.wrap (2 * (P : Int) - 1) = 2 * (P : Int) - 1 := IntWalk.i64_in _ (by omega)
  have hw3 : IntKind.i64.wrap (2 * (P : Int) - 1 - (k : Int)) = (m : Int) := by rw [IntWalk.i64_in _ (by omega)]; omega
  have hm : Hid (2 * (P : Int) - 1 - (k : Int) = (m : Int)) := by unfold Hid; omega
  go_enter Try.func64, Try.ntmps64
  go_wp2
  go_ret
  exact ⟨by first | rfl | rw [hm.out], rfl⟩
set_option maxHeartbeats 1000000 in
theorem isPit_lit (r : Ru) (P : Nat) (k : Int) (q : Bool) (w : World) (hP : r.p = (P : Int)) (h2 : 2 ≤ P) (h8 : P ≤ 8) (hq : inB k 0 (2 * (P : Int) - 1) = q) : Calls Try.prog 51 #[.agg #[.int .i64 r.p, .int .i64 r.s, .bool r.st, .bool r.sk, .bool r.re, .bool r.fe, .bool r.ag, .int .i64 r.ca, .int .i64 r.sl], .int .i64 k] w fun e w' => e = .returned (.bool q) ∧ w' = w.alloc (.cells #[.int .i64 r.p, .int .i64 r.s, .bool r.st, .bool r.sk, .bool r.re, .bool r.fe, .bool r.ag, .int .i64 r.ca, .int .i64 r.sl] 29) := by
  obtain ⟨p, s, st, sk, re, fe, ag, ca, sl⟩ := r
  simp only at hP
  subst hP hq
  have hw1 : IntKind.i64.wrap (2 * (P : Int)) = 2 * (P : Int) := IntWalk.i64_in _ (by omega)
  have hw2 : IntKind.i64.wrap (2 * (P : Int) - 1) = 2 * (P : Int) - 1 := IntWalk.i64_in _ (by omega)
  go_enter Try.func51, Try.ntmps51
  go_wp2_with (go_at_call 50; refine (between_any _ _ _ _).mono ?_; rintro e w_ ⟨rfl, rfl⟩)
  go_ret
  exact ⟨rfl, rfl⟩
end Go.Proofs.Ytdkljnlkfkjdpaa
