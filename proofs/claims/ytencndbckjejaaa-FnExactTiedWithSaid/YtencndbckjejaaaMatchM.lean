/- The laws' own marks of lists of Match. Conditions: lengths below 2^20. -/
import Derived.Test.YtencndbckjejaaaMatchS
namespace Go.Proofs.Ytencndbckjejaaa
set_option linter.unusedSimpArgs false
set_option linter.unusedVariables false
open Go.RowKit

/-- The mark of a cell. -/
def mkMatch (k0 : Int) (p : Nat) : Value := if p % 4 = 3 then .bool ((k0 + (p : Nat)) % 3 == 0) else .int .i64 (k0 + (p : Nat))
theorem mkMatch_i (k0 : Int) (p : Nat) (h : ¬ (p % 4 = 3)) : mkMatch k0 p = .int .i64 (k0 + (p : Nat)) := by unfold mkMatch; rw [if_neg h]
theorem mkMatch_b (k0 : Int) (p : Nat) (h : p % 4 = 3) : mkMatch k0 p = .bool ((k0 + (p : Nat)) % 3 == 0) := by unfold mkMatch; rw [if_pos h]
set_option maxHeartbeats 1000000 in
theorem markMatchS_any (A : Option Addr) (n c g : Nat) (vs : List Value) (k0 : Int) (w : World) (ho : OwnV w g 54 4 A n vs) (ht : TypMatch vs n) (hn : n ≤ 1099511627776) (h0 : 0 ≤ k0) (h1 : k0 ≤ 1099511627776) :
    Calls Try.prog 19 #[.slice A n c, .int .i64 k0] w fun e w' => e = .returned (.int .i64 (k0 + (n * 4 : Nat))) ∧ OwnV w' g 54 4 A n ((List.range (n * 4)).map (mkMatch k0)) ∧ w.grownBy w' (some g) := by
  have HL := Lib.hid ho.len
  have HT := Lib.hid ht; clear ht
  obtain ⟨rest, hr⟩ := ho.rest
  have HR := Lib.hid hr
  clear hr ho
  go_enter Try.func19, Try.ntmps19
  go_wp2
  go_loopw [1, 5] (fun kk i wr => ∃ k : Nat, k ≤ n ∧ i = .int .i64 k ∧ kk = .int .i64 (k0 + (k * 4 : Nat)) ∧ MarkRelV wr g 54 A n vs rest (mkMatch k0) (k * 4) ∧ w.grownBy wr (some g)) (fun _ i _ => n - (intOf i).toNat)
  case atStart => exact ⟨0, Nat.zero_le _, rfl, by simp, fun h => by rw [Nat.zero_mul, markV_zero]; exact HR.out h, World.grownBy.refl _ _⟩
  case round =>
    obtain ⟨k, hk, rfl, rfl, hblk, hgr⟩ := hrel
    by_cases hlt : k < n
    · obtain ⟨rfl, hb⟩ := hblk (by omega)
      obtain ⟨a0, a1, a2, a3, v0, v1, v2, v3⟩ := HT.out k hlt
      have hkl : k * 4 + 4 ≤ vs.length := by rw [HL.out, ← Nat.succ_mul]; exact Nat.mul_le_mul_right _ hlt
      have hkn : k * 4 + 4 ≤ n * 4 := by rw [← Nat.succ_mul]; exact Nat.mul_le_mul_right _ hlt
      have c0 := ((hb.cell (k * 4)).trans (markV_get (mkMatch k0) vs rest (k * 4) (k * 4) (by omega) (by omega))).trans v0
      have f0 := hb.free (k * 4)
      have c1 := ((hb.cell (k * 4 + 1)).trans (markV_get (mkMatch k0) vs rest (k * 4) (k * 4 + 1) (by omega) (by omega))).trans v1
      have f1 := hb.free (k * 4 + 1)
      have c2 := ((hb.cell (k * 4 + 2)).trans (markV_get (mkMatch k0) vs rest (k * 4) (k * 4 + 2) (by omega) (by omega))).trans v2
      have f2 := hb.free (k * 4 + 2)
      have c3 := ((hb.cell (k * 4 + 3)).trans (markV_get (mkMatch k0) vs rest (k * 4) (k * 4 + 3) (by omega) (by omega))).trans v3
      have f3 := hb.free (k * 4 + 3)
      have HB := Lib.hid hb
      clear hb hblk v0 v1 v2 v3
      go_wp2
      go_roundw
      case rel =>
        have hset : markV (mkMatch k0) vs rest ((k + 1) * 4) = ((((markV (mkMatch k0) vs rest (k * 4)).setIfInBounds (k * 4) (.int .i64 (k0 + (k : Int) * 4))).setIfInBounds (k * 4 + 1) (.int .i64 (k0 + (k : Int) * 4 + 1))).setIfInBounds (k * 4 + 2) (.int .i64 (k0 + (k : Int) * 4 + 1 + 1))).setIfInBounds (k * 4 + 3) (.bool ((k0 + (k : Int) * 4 + 1 + 1 + 1) % 3 == 0)) := by
          rw [markV_set (mkMatch k0) vs rest (k * 4) (by omega) _ (by rw [mkMatch_i k0 (k * 4) (by omega)]; exact congrArg (Value.int .i64) (by omega))]
          rw [markV_set (mkMatch k0) vs rest (k * 4 + 1) (by omega) _ (by rw [mkMatch_i k0 (k * 4 + 1) (by omega)]; exact congrArg (Value.int .i64) (by omega))]
          rw [markV_set (mkMatch k0) vs rest (k * 4 + 2) (by omega) _ (by rw [mkMatch_i k0 (k * 4 + 2) (by omega)]; exact congrArg (Value.int .i64) (by omega))]
          rw [markV_set (mkMatch k0) vs rest (k * 4 + 3) (by omega) _ (by rw [mkMatch_b k0 (k * 4 + 3) (by omega)]; exact congrArg (fun x : Int => Value.bool (x % 3 == 0)) (by omega))]
          rw [Nat.succ_mul]
        refine ⟨k + 1, by omega, by go_num, by go_num, ?_, ?_⟩
        · intro _
          refine ⟨rfl, ?_⟩
          rw [hset]
          exact (Blk.set (Blk.set (Blk.set (Blk.set HB.out (k * 4) _) (k * 4 + 1) _) (k * 4 + 2) _) (k * 4 + 3) _)
        · exact (only_setCell (p := ⟨g, (k * 4 + 3), none⟩) (only_setCell (p := ⟨g, (k * 4 + 2), none⟩) (only_setCell (p := ⟨g, (k * 4 + 1), none⟩) (only_setCell (p := ⟨g, (k * 4), none⟩) hgr (.inl rfl) _) (.inl rfl) _) (.inl rfl) _) (.inl rfl) _)
      case measure => first | (simp [intOf]; done) | (simp [intOf]; omega)
    · obtain rfl : k = n := by omega
      go_wp2
      go_ret
      exact ⟨rfl, hblk.own HL.out, hgr⟩
set_option maxHeartbeats 1000000 in
theorem heldMatchS_any (A : Option Addr) (n c : Nat) (k0 : Int) (w : World) (hs : Sl w w.heap.size 4 A n ((List.range (n * 4)).map (mkMatch k0))) (hn : n ≤ 1099511627776) (h0 : 0 ≤ k0) (h1 : k0 ≤ 1099511627776) :
    Calls Try.prog 20 #[.slice A n c, .int .i64 k0] w fun e w' => e = .returned (.int .i64 (k0 + (n * 4 : Nat))) ∧ w = w' := by
  go_enter Try.func20, Try.ntmps20
  go_wp2
  go_loop [1, 5] (fun kk i => ∃ k : Nat, k ≤ n ∧ i = .int .i64 k ∧ kk = .int .i64 (k0 + (k * 4 : Nat))) (fun _ i => n - (intOf i).toNat)
  case atStart => exact ⟨0, Nat.zero_le _, rfl, by simp⟩
  case round =>
    obtain ⟨k, hk, rfl, rfl⟩ := hrel
    by_cases hlt : k < n
    · obtain ⟨b, off, rfl, hb, hl, hc⟩ := hs.cellV hlt
      have hkn : k * 4 + 4 ≤ n * 4 := by rw [← Nat.succ_mul]; exact Nat.mul_le_mul_right _ hlt
      have hc0 := hc 0 (.int .i64 (k0 + (k : Int) * 4)) (by omega) (by rw [List.getElem?_map, List.getElem?_range (by omega), Option.map_some, mkMatch_i k0 _ (by omega)]; exact congrArg some (congrArg (Value.int .i64) (by omega)).symm)
      rw [Nat.add_zero] at hc0
      have hc1 := hc 1 (.int .i64 (k0 + (k : Int) * 4 + 1)) (by omega) (by rw [List.getElem?_map, List.getElem?_range (by omega), Option.map_some, mkMatch_i k0 _ (by omega)]; exact congrArg some (congrArg (Value.int .i64) (by omega)).symm)
      rw [← Nat.add_assoc] at hc1
      have hc2 := hc 2 (.int .i64 (k0 + (k : Int) * 4 + 1 + 1)) (by omega) (by rw [List.getElem?_map, List.getElem?_range (by omega), Option.map_some, mkMatch_i k0 _ (by omega)]; exact congrArg some (congrArg (Value.int .i64) (by omega)).symm)
      rw [← Nat.add_assoc] at hc2
      have hc3 := hc 3 (.bool ((k0 + (k : Int) * 4 + 1 + 1 + 1) % 3 == 0)) (by omega) (by rw [List.getElem?_map, List.getElem?_range (by omega), Option.map_some, mkMatch_b k0 _ (by omega)]; exact congrArg some (congrArg (fun x : Int => Value.bool (x % 3 == 0)) (by omega)).symm)
      rw [← Nat.add_assoc] at hc3
      clear hc hl
      cases hq3 : ((k0 + (k : Int) * 4 + 1 + 1 + 1) % 3 == 0)
      all_goals
        rw [hq3] at hc3
        go_wp2
        go_round
        case rel => exact ⟨k + 1, by omega, by go_num, by go_num⟩
        case measure => first | (simp [intOf]; done) | (simp [intOf]; omega)
    · obtain rfl : k = n := by omega
      go_wp2
      go_ret
      exact ⟨rfl, rfl⟩
end Go.Proofs.Ytencndbckjejaaa
