/- The laws' own marks of lists of Row. Conditions: lengths below 2^20. -/
import Derived.Test.YtencndbckjejaaaRowS
namespace Go.Proofs.Ytencndbckjejaaa
set_option linter.unusedSimpArgs false
set_option linter.unusedVariables false
open Go.RowKit

/-- The mark of a cell. -/
def mkRow (k0 : Int) (p : Nat) : Value := if False then .bool ((k0 + (p : Nat)) % 3 == 0) else .int .i64 (k0 + (p : Nat))
theorem mkRow_i (k0 : Int) (p : Nat) (h : ¬ (False)) : mkRow k0 p = .int .i64 (k0 + (p : Nat)) := by unfold mkRow; rw [if_neg h]
theorem mkRow_b (k0 : Int) (p : Nat) (h : False) : mkRow k0 p = .bool ((k0 + (p : Nat)) % 3 == 0) := by unfold mkRow; rw [if_pos h]
set_option maxHeartbeats 1000000 in
theorem markRowS_any (A : Option Addr) (n c g : Nat) (vs : List Value) (k0 : Int) (w : World) (ho : OwnV w g 67 6 A n vs) (ht : TypRow vs n) (hn : n ≤ 1099511627776) (h0 : 0 ≤ k0) (h1 : k0 ≤ 1099511627776) :
    Calls Try.prog 29 #[.slice A n c, .int .i64 k0] w fun e w' => e = .returned (.int .i64 (k0 + (n * 6 : Nat))) ∧ OwnV w' g 67 6 A n ((List.range (n * 6)).map (mkRow k0)) ∧ w.grownBy w' (some g) := by
  have HL := Lib.hid ho.len
  have HT := Lib.hid ht; clear ht
  obtain ⟨rest, hr⟩ := ho.rest
  have HR := Lib.hid hr
  clear hr ho
  go_enter Try.func29, Try.ntmps29
  go_wp2
  go_loopw [1, 5] (fun kk i wr => ∃ k : Nat, k ≤ n ∧ i = .int .i64 k ∧ kk = .int .i64 (k0 + (k * 6 : Nat)) ∧ MarkRelV wr g 67 A n vs rest (mkRow k0) (k * 6) ∧ w.grownBy wr (some g)) (fun _ i _ => n - (intOf i).toNat)
  case atStart => exact ⟨0, Nat.zero_le _, rfl, by simp, fun h => by rw [Nat.zero_mul, markV_zero]; exact HR.out h, World.grownBy.refl _ _⟩
  case round =>
    obtain ⟨k, hk, rfl, rfl, hblk, hgr⟩ := hrel
    by_cases hlt : k < n
    · obtain ⟨rfl, hb⟩ := hblk (by omega)
      obtain ⟨a0, a1, a2, a3, a4, a5, v0, v1, v2, v3, v4, v5⟩ := HT.out k hlt
      have hkl : k * 6 + 6 ≤ vs.length := by rw [HL.out, ← Nat.succ_mul]; exact Nat.mul_le_mul_right _ hlt
      have hkn : k * 6 + 6 ≤ n * 6 := by rw [← Nat.succ_mul]; exact Nat.mul_le_mul_right _ hlt
      have c0 := ((hb.cell (k * 6)).trans (markV_get (mkRow k0) vs rest (k * 6) (k * 6) (by omega) (by omega))).trans v0
      have f0 := hb.free (k * 6)
      have c1 := ((hb.cell (k * 6 + 1)).trans (markV_get (mkRow k0) vs rest (k * 6) (k * 6 + 1) (by omega) (by omega))).trans v1
      have f1 := hb.free (k * 6 + 1)
      have c2 := ((hb.cell (k * 6 + 2)).trans (markV_get (mkRow k0) vs rest (k * 6) (k * 6 + 2) (by omega) (by omega))).trans v2
      have f2 := hb.free (k * 6 + 2)
      have c3 := ((hb.cell (k * 6 + 3)).trans (markV_get (mkRow k0) vs rest (k * 6) (k * 6 + 3) (by omega) (by omega))).trans v3
      have f3 := hb.free (k * 6 + 3)
      have c4 := ((hb.cell (k * 6 + 4)).trans (markV_get (mkRow k0) vs rest (k * 6) (k * 6 + 4) (by omega) (by omega))).trans v4
      have f4 := hb.free (k * 6 + 4)
      have c5 := ((hb.cell (k * 6 + 5)).trans (markV_get (mkRow k0) vs rest (k * 6) (k * 6 + 5) (by omega) (by omega))).trans v5
      have f5 := hb.free (k * 6 + 5)
      have HB := Lib.hid hb
      clear hb hblk v0 v1 v2 v3 v4 v5
      go_wp2
      go_roundw
      case rel =>
        have hset : markV (mkRow k0) vs rest ((k + 1) * 6) = ((((((markV (mkRow k0) vs rest (k * 6)).setIfInBounds (k * 6) (.int .i64 (k0 + (k : Int) * 6))).setIfInBounds (k * 6 + 1) (.int .i64 (k0 + (k : Int) * 6 + 1))).setIfInBounds (k * 6 + 2) (.int .i64 (k0 + (k : Int) * 6 + 1 + 1))).setIfInBounds (k * 6 + 3) (.int .i64 (k0 + (k : Int) * 6 + 1 + 1 + 1))).setIfInBounds (k * 6 + 4) (.int .i64 (k0 + (k : Int) * 6 + 1 + 1 + 1 + 1))).setIfInBounds (k * 6 + 5) (.int .i64 (k0 + (k : Int) * 6 + 1 + 1 + 1 + 1 + 1)) := by
          rw [markV_set (mkRow k0) vs rest (k * 6) (by omega) _ (by rw [mkRow_i k0 (k * 6) (fun h => h)]; exact congrArg (Value.int .i64) (by omega))]
          rw [markV_set (mkRow k0) vs rest (k * 6 + 1) (by omega) _ (by rw [mkRow_i k0 (k * 6 + 1) (fun h => h)]; exact congrArg (Value.int .i64) (by omega))]
          rw [markV_set (mkRow k0) vs rest (k * 6 + 2) (by omega) _ (by rw [mkRow_i k0 (k * 6 + 2) (fun h => h)]; exact congrArg (Value.int .i64) (by omega))]
          rw [markV_set (mkRow k0) vs rest (k * 6 + 3) (by omega) _ (by rw [mkRow_i k0 (k * 6 + 3) (fun h => h)]; exact congrArg (Value.int .i64) (by omega))]
          rw [markV_set (mkRow k0) vs rest (k * 6 + 4) (by omega) _ (by rw [mkRow_i k0 (k * 6 + 4) (fun h => h)]; exact congrArg (Value.int .i64) (by omega))]
          rw [markV_set (mkRow k0) vs rest (k * 6 + 5) (by omega) _ (by rw [mkRow_i k0 (k * 6 + 5) (fun h => h)]; exact congrArg (Value.int .i64) (by omega))]
          rw [Nat.succ_mul]
        refine ⟨k + 1, by omega, by go_num, by go_num, ?_, ?_⟩
        · intro _
          refine ⟨rfl, ?_⟩
          rw [hset]
          exact (Blk.set (Blk.set (Blk.set (Blk.set (Blk.set (Blk.set HB.out (k * 6) _) (k * 6 + 1) _) (k * 6 + 2) _) (k * 6 + 3) _) (k * 6 + 4) _) (k * 6 + 5) _)
        · exact (only_setCell (p := ⟨g, (k * 6 + 5), none⟩) (only_setCell (p := ⟨g, (k * 6 + 4), none⟩) (only_setCell (p := ⟨g, (k * 6 + 3), none⟩) (only_setCell (p := ⟨g, (k * 6 + 2), none⟩) (only_setCell (p := ⟨g, (k * 6 + 1), none⟩) (only_setCell (p := ⟨g, (k * 6), none⟩) hgr (.inl rfl) _) (.inl rfl) _) (.inl rfl) _) (.inl rfl) _) (.inl rfl) _) (.inl rfl) _)
      case measure => first | (simp [intOf]; done) | (simp [intOf]; omega)
    · obtain rfl : k = n := by omega
      go_wp2
      go_ret
      exact ⟨rfl, hblk.own HL.out, hgr⟩
set_option maxHeartbeats 1000000 in
theorem heldRowS_any (A : Option Addr) (n c : Nat) (k0 : Int) (w : World) (hs : Sl w w.heap.size 6 A n ((List.range (n * 6)).map (mkRow k0))) (hn : n ≤ 1099511627776) (h0 : 0 ≤ k0) (h1 : k0 ≤ 1099511627776) :
    Calls Try.prog 30 #[.slice A n c, .int .i64 k0] w fun e w' => e = .returned (.int .i64 (k0 + (n * 6 : Nat))) ∧ w = w' := by
  go_enter Try.func30, Try.ntmps30
  go_wp2
  go_loop [1, 5] (fun kk i => ∃ k : Nat, k ≤ n ∧ i = .int .i64 k ∧ kk = .int .i64 (k0 + (k * 6 : Nat))) (fun _ i => n - (intOf i).toNat)
  case atStart => exact ⟨0, Nat.zero_le _, rfl, by simp⟩
  case round =>
    obtain ⟨k, hk, rfl, rfl⟩ := hrel
    by_cases hlt : k < n
    · obtain ⟨b, off, rfl, hb, hl, hc⟩ := hs.cellV hlt
      have hkn : k * 6 + 6 ≤ n * 6 := by rw [← Nat.succ_mul]; exact Nat.mul_le_mul_right _ hlt
      have hc0 := hc 0 (.int .i64 (k0 + (k : Int) * 6)) (by omega) (by rw [List.getElem?_map, List.getElem?_range (by omega), Option.map_some, mkRow_i k0 _ (fun h => h)]; exact congrArg some (congrArg (Value.int .i64) (by omega)).symm)
      rw [Nat.add_zero] at hc0
      have hc1 := hc 1 (.int .i64 (k0 + (k : Int) * 6 + 1)) (by omega) (by rw [List.getElem?_map, List.getElem?_range (by omega), Option.map_some, mkRow_i k0 _ (fun h => h)]; exact congrArg some (congrArg (Value.int .i64) (by omega)).symm)
      rw [← Nat.add_assoc] at hc1
      have hc2 := hc 2 (.int .i64 (k0 + (k : Int) * 6 + 1 + 1)) (by omega) (by rw [List.getElem?_map, List.getElem?_range (by omega), Option.map_some, mkRow_i k0 _ (fun h => h)]; exact congrArg some (congrArg (Value.int .i64) (by omega)).symm)
      rw [← Nat.add_assoc] at hc2
      have hc3 := hc 3 (.int .i64 (k0 + (k : Int) * 6 + 1 + 1 + 1)) (by omega) (by rw [List.getElem?_map, List.getElem?_range (by omega), Option.map_some, mkRow_i k0 _ (fun h => h)]; exact congrArg some (congrArg (Value.int .i64) (by omega)).symm)
      rw [← Nat.add_assoc] at hc3
      have hc4 := hc 4 (.int .i64 (k0 + (k : Int) * 6 + 1 + 1 + 1 + 1)) (by omega) (by rw [List.getElem?_map, List.getElem?_range (by omega), Option.map_some, mkRow_i k0 _ (fun h => h)]; exact congrArg some (congrArg (Value.int .i64) (by omega)).symm)
      rw [← Nat.add_assoc] at hc4
      have hc5 := hc 5 (.int .i64 (k0 + (k : Int) * 6 + 1 + 1 + 1 + 1 + 1)) (by omega) (by rw [List.getElem?_map, List.getElem?_range (by omega), Option.map_some, mkRow_i k0 _ (fun h => h)]; exact congrArg some (congrArg (Value.int .i64) (by omega)).symm)
      rw [← Nat.add_assoc] at hc5
      clear hc hl
      all_goals
        go_wp2
        go_round
        case rel => exact ⟨k + 1, by omega, by go_num, by go_num⟩
        case measure => first | (simp [intOf]; done) | (simp [intOf]; omega)
    · obtain rfl : k = n := by omega
      go_wp2
      go_ret
      exact ⟨rfl, rfl⟩
end Go.Proofs.Ytencndbckjejaaa
