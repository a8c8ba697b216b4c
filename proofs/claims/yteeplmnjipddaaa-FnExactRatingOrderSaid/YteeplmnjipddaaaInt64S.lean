/- The laws' own marks of lists of numbers. Conditions: lengths below 2^40. -/
import Derived.Test.YteeplmnjipddaaaFlat
namespace Go.Proofs.Yteeplmnjipddaaa
set_option linter.unusedSimpArgs false
set_option linter.unusedVariables false
open Go.RowKit

set_option maxHeartbeats 1000000 in
theorem markInt64S_any (A : Option Addr) (n c g : Nat) (zs : List Int) (k0 : Int) (w : World) (ho : Own w g 2 1 A n zs) (hn : n ≤ 1099511627776) (h0 : 0 ≤ k0) (h1 : k0 ≤ 1099511627776) :
    Calls Try.prog 13 #[.slice A n c, .int .i64 k0] w fun e w' => e = .returned (.int .i64 (k0 + (n : Nat))) ∧ Own w' g 2 1 A n (marks k0 n) ∧ w.grownBy w' (some g) := by
  have HL : Hid (zs.length = n) := by unfold Hid; have := ho.len; omega
  obtain ⟨rest, hr⟩ := ho.rest
  have HR := Lib.hid hr
  clear hr ho
  go_enter Try.func13, Try.ntmps13
  go_wp2
  go_loopw [1, 5] (fun kk i wr => ∃ k : Nat, k ≤ n ∧ i = .int .i64 k ∧ kk = .int .i64 (k0 + (k : Nat)) ∧ MarkRel wr g 2 A n zs rest k0 k ∧ w.grownBy wr (some g)) (fun _ i _ => n - (intOf i).toNat)
  case atStart => exact ⟨0, Nat.zero_le _, rfl, by simp, fun h => by rw [markA_zero]; exact HR.out h, World.grownBy.refl _ _⟩
  case round =>
    obtain ⟨k, hk, rfl, rfl, hblk, hgr⟩ := hrel
    by_cases hlt : k < n
    · obtain ⟨rfl, hb⟩ := hblk (by omega)
      have hkl : k < zs.length := by rw [HL.out]; exact hlt
      have c0 := (hb.cell k).trans (markA_get zs rest k0 k k (by omega) hkl)
      have f0 := hb.free k
      have HB := Lib.hid hb
      clear hb hblk
      go_wp2
      go_roundw
      case rel =>
        refine ⟨k + 1, by omega, by go_num, by go_num, ?_, ?_⟩
        · intro _
          refine ⟨rfl, ?_⟩
          rw [← markA_set zs rest k0 k hkl]
          exact Blk.set HB.out k _
        · exact only_setCell (p := ⟨g, k, none⟩) hgr (.inl rfl) _
      case measure => first | (simp [intOf]; done) | (simp [intOf]; omega)
    · obtain rfl : k = n := by omega
      go_wp2
      go_ret
      have ho := MarkRel.own (m := 1) (by rw [Nat.mul_one]; exact hblk) (by rw [Nat.mul_one]; exact HL.out)
      rw [Nat.mul_one] at ho
      exact ⟨rfl, ho, hgr⟩
set_option maxHeartbeats 1000000 in
theorem heldInt64S_any (A : Option Addr) (n c : Nat) (k0 : Int) (w : World) (hs : Sl w w.heap.size 1 A n ((marks k0 n).map (Value.int .i64))) (hn : n ≤ 1099511627776) (h0 : 0 ≤ k0) (h1 : k0 ≤ 1099511627776) :
    Calls Try.prog 14 #[.slice A n c, .int .i64 k0] w fun e w' => e = .returned (.int .i64 (k0 + (n : Nat))) ∧ w = w' := by
  go_enter Try.func14, Try.ntmps14
  go_wp2
  go_loop [1, 5] (fun kk i => ∃ k : Nat, k ≤ n ∧ i = .int .i64 k ∧ kk = .int .i64 (k0 + (k : Nat))) (fun _ i => n - (intOf i).toNat)
  case atStart => exact ⟨0, Nat.zero_le _, rfl, by simp⟩
  case round =>
    obtain ⟨k, hk, rfl, rfl⟩ := hrel
    by_cases hlt : k < n
    · obtain ⟨b, off, z, rfl, hb, HZ, hc⟩ := hs.int hlt
      have hz := HZ.out
      rw [marks_get k0 _ _ hlt] at hz
      subst hz
      clear HZ
      go_wp2
      go_round
      case rel => exact ⟨k + 1, by omega, by go_num, by go_num⟩
      case measure => first | (simp [intOf]; done) | (simp [intOf]; omega)
    · obtain rfl : k = n := by omega
      go_wp2
      go_ret
      exact ⟨rfl, rfl⟩
end Go.Proofs.Yteeplmnjipddaaa
