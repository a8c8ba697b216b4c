/- Pairings: who has met, as a table; the ways to pair. Conditions: at most 12 players. -/
import Derived.Test.YteeplmnjipddaaaWays2
namespace Go.Proofs.Yteeplmnjipddaaa
set_option linter.unusedSimpArgs false
set_option linter.unusedVariables false
open Go.RowKit Go.WideShapes

/-- The table of those who have met in the first k meetings. -/
def metC (zs : List Int) (k : Nat) : Array Value := ((List.range 144).map fun i : Nat => Value.bool (metB zs ((i / 12 : Nat) : Int) ((i % 12 : Nat) : Int) k)).toArray
theorem metC_at {zs : List Int} {k a b : Nat} (ha : a < 12) (hb : b < 12) : (metC zs k)[a * 12 + b]? = some (.bool (metB zs a b k)) := by
  have e1 : (a * 12 + b) / 12 = a := by omega
  have e2 : (a * 12 + b) % 12 = b := by omega
  simp only [metC, List.getElem?_toArray, List.getElem?_map]
  rw [List.getElem?_range (by omega)]
  simp only [Option.map_some, e1, e2]
theorem metC_zero (zs : List Int) : metC zs 0 = (List.replicate 144 (Value.bool false)).toArray := by
  simp only [metC, metB]
  rfl
theorem metC_step {zs : List Int} {k x y : Nat} (hx : x < 12) (hy : y < 12) (h1 : zs.getD (k * 2) 0 = (x : Int)) (h2 : zs.getD (k * 2 + 1) 0 = (y : Int)) : ((metC zs k).setIfInBounds (x * 12 + y) (.bool true)).setIfInBounds (y * 12 + x) (.bool true) = metC zs (k + 1) := by
  apply Array.ext_getElem?
  intro i
  by_cases hi : i < 144
  · obtain ⟨a, b, hb, rfl⟩ : ∃ a b, b < 12 ∧ i = a * 12 + b := ⟨i / 12, i % 12, Nat.mod_lt _ (by omega), by omega⟩
    have ha : a < 12 := by omega
    have hs : (metC zs k).size = 144 := by simp [metC]
    rw [metC_at ha hb, metB, h1, h2, Array.getElem?_setIfInBounds, Array.getElem?_setIfInBounds, metC_at ha hb]
    simp only [Array.size_setIfInBounds, hs]
    by_cases e1 : y * 12 + x = a * 12 + b
    · have e2 : y = a := by omega
      have e3 : x = b := by omega
      subst e2 e3
      rw [if_pos rfl, if_pos (by omega)]
      simp
    · rw [if_neg e1]
      by_cases e2 : x * 12 + y = a * 12 + b
      · have e3 : x = a := by omega
        have e4 : y = b := by omega
        subst e3 e4
        rw [if_pos rfl, if_pos (by omega)]
        simp
      · rw [if_neg e2]
        have n1 : (((x : Int) == (a : Int)) && ((y : Int) == (b : Int))) = false := by
          rw [Bool.and_eq_false_iff, beq_eq_false_iff_ne, beq_eq_false_iff_ne]; omega
        have n2 : (((x : Int) == (b : Int)) && ((y : Int) == (a : Int))) = false := by
          rw [Bool.and_eq_false_iff, beq_eq_false_iff_ne, beq_eq_false_iff_ne]; omega
        rw [n1, n2, Bool.or_self, Bool.or_false]
  · have h1' : (metC zs (k + 1)).size = 144 := by simp [metC]
    have h2' : (((metC zs k).setIfInBounds (x * 12 + y) (.bool true)).setIfInBounds (y * 12 + x) (.bool true)).size = 144 := by simp [metC]
    rw [Array.getElem?_eq_none (by omega), Array.getElem?_eq_none (by omega)]
set_option maxRecDepth 10000 in
theorem info_pairer : (Try.prog.info? 99).map (·.zero) = some (some (Value.agg (List.replicate 144 (Value.bool false)).toArray)) := by kernel_rfl
set_option maxRecDepth 10000 in
theorem zero_pairer (w : World) : (zeroValue 99).run Try.prog w = .ok (.agg (List.replicate 144 (Value.bool false)).toArray) w := by
  have h := info_pairer
  cases hi : Try.prog.info? 99 with
  | none => rw [hi] at h; cases h
  | some i =>
    rw [hi] at h
    injection h with h
    simp [zeroValue, typeInfo, hi, h]
set_option maxRecDepth 10000 in
set_option maxHeartbeats 2000000 in
theorem newPairer_any (A : Option Addr) (c cp : Nat) (zs : List Int) (w : World) (hs : Sl w w.heap.size 2 A c (zs.map (Value.int .i64))) (hc : c ≤ 150)
    (hz : ∀ j, j < c → 0 ≤ zs.getD (j * 2) 0 ∧ zs.getD (j * 2) 0 < 12 ∧ 0 ≤ zs.getD (j * 2 + 1) 0 ∧ zs.getD (j * 2 + 1) 0 < 12) :
    Calls Try.prog 42 #[.slice A c cp] w fun e w' => e = .returned (.pointer (some ⟨w.heap.size, 0, none⟩)) ∧ Blk w' w.heap.size 99 (metC zs c) ∧ Below w.heap.size w w' := by
  have HZ := Lib.hid hz
  have HS := Lib.hid hs
  obtain ⟨Z, hZ⟩ : ∃ Z, (List.replicate 144 (Value.bool false)).toArray = Z := ⟨_, rfl⟩
  have hzv := zero_pairer
  rw [hZ] at hzv
  have HZZ := Lib.hid hZ
  clear hz hs hZ
  go_enter Try.func42, Try.ntmps42
  go_wp2
  go_loopw [10] (fun i wr => ∃ k : Nat, k ≤ c ∧ i = .int .i64 k ∧ Blk wr w.heap.size 99 (metC zs k) ∧ Below w.heap.size w wr) (fun i _ => c - (intOf i).toNat)
  case atStart =>
    refine ⟨0, Nat.zero_le _, rfl, ?_, by (repeat' (first | (with_reducible exact Below.refl _ _) | (with_reducible assumption) | (with_reducible refine Below.alloc ?_ ?_ _) | (with_reducible refine Below.drew ?_) | (with_reducible refine belowDrewN ?_ _) | (with_reducible refine Below.setCell ?_ ?_ _) | (with_reducible refine Below.via (by with_reducible assumption) ?_ ?_) | (with_reducible refine Below.viaD (by with_reducible assumption) ?_ ?_) | (with_reducible exact Below.size (by with_reducible assumption)) | go_size | (with_reducible refine Nat.le_trans ?_ (Below.size (by with_reducible assumption))) | (with_reducible refine Nat.le_trans ?_ (sizeAlloc _ _)) | (with_reducible refine Nat.le_trans ?_ (sizeSet _ _ _)) | (with_reducible refine Nat.le_trans ?_ (sizeDrew _))))⟩
    rw [metC_zero, HZZ.out]
    exact Blk.new _ _ _
  case round =>
    obtain ⟨k, hk, rfl, hblk, hbl⟩ := hrel
    rename World => wo
    have HBL := Lib.hid hbl
    by_cases hlt : k < c
    · obtain ⟨b, off, rfl, hb, hl, hcc⟩ := (HS.out.below hbl).cellAt hlt
      obtain ⟨g1, g2, g3, g4⟩ := HZ.out k hlt
      obtain ⟨x, hx⟩ := Int.eq_ofNat_of_zero_le g1
      obtain ⟨y, hy⟩ := Int.eq_ofNat_of_zero_le g3
      have hc0 := hcc 0 (by omega)
      have hc1 := hcc 1 (by omega)
      rw [Nat.add_zero, hx] at hc0
      rw [hy, ← Nat.add_assoc] at hc1
      have hx12 : x < 12 := by omega
      have hy12 : y < 12 := by omega
      have HST := Lib.hid (metC_step hx12 hy12 hx hy)
      have HB0 := Lib.hid hblk
      have hgl := hblk.lt
      have hgl1 : w.heap.size < (wo.setCell ⟨w.heap.size, x * 12 + y, none⟩ (.bool true)).heap.size := by simpa [World.setCell] using hgl
      have HB1 : Hid (Blk ((wo.setCell ⟨w.heap.size, x * 12 + y, none⟩ (.bool true)).alloc (.cells #[.int .i64 x, .int .i64 y] 52)).drew w.heap.size 99 ((metC zs k).setIfInBounds (x * 12 + y) (.bool true))) := (hblk.set (x * 12 + y) (.bool true)).later (belowDrewN (Below.alloc (Below.refl _ _) (Nat.le_refl _) _) 1)
      have f0 := hblk.free (x * 12 + y)
      have v0 := (hblk.cell (x * 12 + y)).trans (metC_at hx12 hy12)
      have f1 := HB1.out.free (y * 12 + x)
      obtain ⟨u1, hu1⟩ : ∃ u, ((metC zs k).setIfInBounds (x * 12 + y) (.bool true))[y * 12 + x]? = some (.bool u) := by
        rw [Array.getElem?_setIfInBounds]
        split
        · rw [if_pos (by simp [metC]; omega)]; exact ⟨true, rfl⟩
        · exact ⟨_, metC_at hy12 hx12⟩
      have v1 := (HB1.out.cell (y * 12 + x)).trans hu1
      clear hu1
      clear hblk hcc hl hx hy g1 g2 g3 g4 hbl
      go_wp2
      go_region
      go_wp2
      go_roundw
      case rel =>
        have hbl := HBL.out
        exact ⟨k + 1, by omega, by go_num, by rw [← HST.out]; exact ((HB0.out.set _ _).set _ _).later (belowDrewN (Below.alloc (Below.refl _ _) (Nat.le_refl _) _) 1), by (repeat' (first | (with_reducible exact Below.refl _ _) | (with_reducible assumption) | (with_reducible refine Below.alloc ?_ ?_ _) | (with_reducible refine Below.drew ?_) | (with_reducible refine belowDrewN ?_ _) | (with_reducible refine Below.setCell ?_ ?_ _) | (with_reducible refine Below.via (by with_reducible assumption) ?_ ?_) | (with_reducible refine Below.viaD (by with_reducible assumption) ?_ ?_) | (with_reducible exact Below.size (by with_reducible assumption)) | go_size | (with_reducible refine Nat.le_trans ?_ (Below.size (by with_reducible assumption))) | (with_reducible refine Nat.le_trans ?_ (sizeAlloc _ _)) | (with_reducible refine Nat.le_trans ?_ (sizeSet _ _ _)) | (with_reducible refine Nat.le_trans ?_ (sizeDrew _))))⟩
      case measure => first | (simp [intOf]; done) | (simp [intOf]; omega)
    · obtain rfl : k = c := by omega
      have HBK := Lib.hid hblk
      clear hblk
      go_wp2
      go_ret
      exact ⟨rfl, HBK.out, by (repeat' (first | (with_reducible exact Below.refl _ _) | (with_reducible assumption) | (with_reducible refine Below.alloc ?_ ?_ _) | (with_reducible refine Below.drew ?_) | (with_reducible refine belowDrewN ?_ _) | (with_reducible refine Below.setCell ?_ ?_ _) | (with_reducible refine Below.via (by with_reducible assumption) ?_ ?_) | (with_reducible refine Below.viaD (by with_reducible assumption) ?_ ?_) | (with_reducible exact Below.size (by with_reducible assumption)) | go_size | (with_reducible refine Nat.le_trans ?_ (Below.size (by with_reducible assumption))) | (with_reducible refine Nat.le_trans ?_ (sizeAlloc _ _)) | (with_reducible refine Nat.le_trans ?_ (sizeSet _ _ _)) | (with_reducible refine Nat.le_trans ?_ (sizeDrew _))))⟩
end Go.Proofs.Yteeplmnjipddaaa
