/- Firsts: both functions, and the law. No conditions beyond lengths. -/
import Derived.Test.YteeplmnjipddaaaMeet2
import Derived.Test.YteeplmnjipddaaaLists
import Derived.Test.YteeplmnjipddaaaInt64S
namespace Go.Proofs.Yteeplmnjipddaaa
set_option linter.unusedSimpArgs false
set_option linter.unusedVariables false
open Go.RowKit

theorem validM_of {n : Int} {zs : List Int} (h : validM n zs = true) : ∃ k : Nat, n = k ∧ 2 ≤ k ∧ k ≤ 12 ∧ zs.length ≤ 300 ∧ ∀ j, j < zs.length / 2 → 0 ≤ zs.getD (j * 2) 0 ∧ zs.getD (j * 2) 0 < k ∧ 0 ≤ zs.getD (j * 2 + 1) 0 ∧ zs.getD (j * 2 + 1) 0 < k ∧ zs.getD (j * 2) 0 ≠ zs.getD (j * 2 + 1) 0 := by
  rw [validM, Bool.and_eq_true, Bool.and_eq_true, List.all_eq_true] at h
  obtain ⟨⟨h1, h2⟩, h3⟩ := h
  obtain ⟨k, rfl, k1, k2⟩ := nat_of h1
  refine ⟨k, rfl, k1, k2, of_decide_eq_true h2, fun j hj => ?_⟩
  have hw : wrap64 ((k : Int) - 1) = (k : Int) - 1 := IntWalk.wrap64_in _ (by omega)
  have h4 := h3 j (List.mem_range.2 hj)
  rw [hw, mtOk, Bool.and_eq_true, Bool.and_eq_true] at h4
  obtain ⟨⟨c1, c2⟩, c3⟩ := h4
  have a1 := inB_of c1
  have a2 := inB_of c2
  simp at c3
  exact ⟨by omega, by omega, by omega, by omega, c3⟩
/-- How often each of n players has moved first in the first k meetings. -/
def fstL (n : Nat) (zs : List Int) : Nat → List Int
  | 0 => List.replicate n 0
  | k + 1 => (fstL n zs k).set (zs.getD (k * 2) 0).toNat ((fstL n zs k).getD (zs.getD (k * 2) 0).toNat 0 + 1)
theorem fstL_len (n : Nat) (zs : List Int) (k : Nat) : (fstL n zs k).length = n := by
  induction k with
  | zero => simp [fstL]
  | succ k ih => rw [fstL, List.length_set, ih]
theorem fstL_bd (n : Nat) (zs : List Int) (k d : Nat) : 0 ≤ (fstL n zs k).getD d 0 ∧ (fstL n zs k).getD d 0 ≤ k := by
  induction k generalizing d with
  | zero =>
    simp only [fstL, List.getD_eq_getElem?_getD, List.getElem?_replicate]
    split <;> simp
  | succ k ih =>
    have h1 := ih d
    have h2 := ih (zs.getD (k * 2) 0).toNat
    simp only [fstL]
    rw [List.getD_eq_getElem?_getD, List.getElem?_set]
    split
    · split
      · simp only [Option.getD_some]; omega
      · simp; omega
    · rw [← List.getD_eq_getElem?_getD]; omega
theorem arr_get {zs : List Int} {d : Nat} (h : d < zs.length) : (zs.map (Value.int .i64)).toArray[d]? = some (.int .i64 (zs.getD d 0)) := by
  rw [List.getElem?_toArray]; exact getD_map_int h
theorem arr_set (zs : List Int) (d : Nat) (v : Int) : (zs.map (Value.int .i64)).toArray.setIfInBounds d (.int .i64 v) = ((zs.set d v).map (Value.int .i64)).toArray := by
  rw [List.setIfInBounds_toArray, ← List.map_set]
theorem info_int64' : (Try.prog.info? 2).map (fun i => (i.zero, i.size, i.bytes)) = some (some (.int .i64 0), 1, 8) := by kernel_rfl
set_option maxHeartbeats 1000000 in
theorem l24Firsts_any (n : Nat) (A : Option Addr) (c cp : Nat) (zs : List Int) (w : World) (hs : Sl w w.heap.size 2 A c (zs.map (Value.int .i64))) (hn : n ≤ 12) (hc : c ≤ 150)
    (hz : ∀ j, j < c → 0 ≤ zs.getD (j * 2) 0 ∧ zs.getD (j * 2) 0 < n) :
    Calls Try.prog 37 #[.int .i64 n, .slice A c cp] w fun e w' => e = .returned (.slice (some ⟨w.heap.size, 0, none⟩) n n) ∧ Blk w' w.heap.size 2 ((fstL n zs c).map (Value.int .i64)).toArray ∧ Below w.heap.size w w' := by
  obtain ⟨i0, hi, hz0, hz1, hz2⟩ := info_parts info_int64'
  have hmk := fun W => run_makeN (P := Try.prog) 24 2 i0 (.int .i64 0) Try.underlying24 hi hz0 .i64 .i64 n n (Nat.le_refl _) (by rw [hz2]; omega) (by omega) W
  rw [hz1, Nat.mul_one] at hmk
  have HZ := Lib.hid hz
  clear hz hi hz0 hz1 hz2
  go_enter Try.func37, Try.ntmps37
  go_wp2
  go_loopw [6] (fun i wr => ∃ k : Nat, k ≤ c ∧ i = .int .i64 k ∧ Blk wr w.heap.size 2 ((fstL n zs k).map (Value.int .i64)).toArray ∧ Below w.heap.size w wr) (fun i _ => c - (intOf i).toNat)
  case atStart =>
    refine ⟨0, Nat.zero_le _, rfl, ?_, by (repeat' (first | (with_reducible exact Below.refl _ _) | (with_reducible assumption) | (with_reducible refine Below.alloc ?_ ?_ _) | (with_reducible refine Below.drew ?_) | (with_reducible refine belowDrewN ?_ _) | (with_reducible refine Below.setCell ?_ ?_ _) | (with_reducible refine Below.via (by with_reducible assumption) ?_ ?_) | (with_reducible refine Below.viaD (by with_reducible assumption) ?_ ?_) | (with_reducible exact Below.size (by with_reducible assumption)) | go_size | (with_reducible refine Nat.le_trans ?_ (Below.size (by with_reducible assumption))) | (with_reducible refine Nat.le_trans ?_ (sizeAlloc _ _)) | (with_reducible refine Nat.le_trans ?_ (sizeSet _ _ _)) | (with_reducible refine Nat.le_trans ?_ (sizeDrew _))))⟩
    have e1 : (Value.int .i64 0).cells = #[Value.int .i64 0] := rfl
    rw [fstL, List.map_replicate, ← made_one]
    exact Blk.new _ _ _
  case round =>
    obtain ⟨k, hk, rfl, hblk, hbl⟩ := hrel
    by_cases hlt : k < c
    · obtain ⟨b, off, rfl, hb, hl, hcc⟩ := (hs.below hbl).cellAt hlt
      obtain ⟨g1, g2⟩ := HZ.out k hlt
      obtain ⟨d, hd⟩ := Int.eq_ofNat_of_zero_le g1
      have hc0 := hcc 0 (by omega)
      rw [Nat.add_zero, hd] at hc0
      have hdn : d < n := by omega
      have hset : fstL n zs (k + 1) = (fstL n zs k).set d ((fstL n zs k).getD d 0 + 1) := by
        rw [fstL, hd, Int.toNat_natCast]
      have hv := (hblk.cell d).trans (arr_get (by rw [fstL_len]; exact hdn))
      have hfr := hblk.free d
      obtain ⟨v1, v2⟩ := fstL_bd n zs k d
      revert hset hv v1 v2
      generalize (fstL n zs k).getD d 0 = v
      intro hset hv v1 v2
      have HS := Lib.hid hset
      have HB := Lib.hid hblk
      clear hset hblk hcc hl hd g1 g2
      go_wp2
      go_roundw
      case rel => exact ⟨k + 1, by omega, by go_num, by rw [HS.out, ← arr_set]; exact HB.out.set d _, by (repeat' (first | (with_reducible exact Below.refl _ _) | (with_reducible assumption) | (with_reducible refine Below.alloc ?_ ?_ _) | (with_reducible refine Below.drew ?_) | (with_reducible refine belowDrewN ?_ _) | (with_reducible refine Below.setCell ?_ ?_ _) | (with_reducible refine Below.via (by with_reducible assumption) ?_ ?_) | (with_reducible refine Below.viaD (by with_reducible assumption) ?_ ?_) | (with_reducible exact Below.size (by with_reducible assumption)) | go_size | (with_reducible refine Nat.le_trans ?_ (Below.size (by with_reducible assumption))) | (with_reducible refine Nat.le_trans ?_ (sizeAlloc _ _)) | (with_reducible refine Nat.le_trans ?_ (sizeSet _ _ _)) | (with_reducible refine Nat.le_trans ?_ (sizeDrew _))))⟩
      case measure => first | (simp [intOf]; done) | (simp [intOf]; omega)
    · obtain rfl : k = c := by omega
      go_wp2
      go_ret
      exact ⟨rfl, hblk, by (repeat' (first | (with_reducible exact Below.refl _ _) | (with_reducible assumption) | (with_reducible refine Below.alloc ?_ ?_ _) | (with_reducible refine Below.drew ?_) | (with_reducible refine belowDrewN ?_ _) | (with_reducible refine Below.setCell ?_ ?_ _) | (with_reducible refine Below.via (by with_reducible assumption) ?_ ?_) | (with_reducible refine Below.viaD (by with_reducible assumption) ?_ ?_) | (with_reducible exact Below.size (by with_reducible assumption)) | go_size | (with_reducible refine Nat.le_trans ?_ (Below.size (by with_reducible assumption))) | (with_reducible refine Nat.le_trans ?_ (sizeAlloc _ _)) | (with_reducible refine Nat.le_trans ?_ (sizeSet _ _ _)) | (with_reducible refine Nat.le_trans ?_ (sizeDrew _))))⟩
set_option maxHeartbeats 1000000 in
theorem firstsOf_any (n : Nat) (A : Option Addr) (c cp : Nat) (zs : List Int) (w : World) (hs : Sl w w.heap.size 2 A c (zs.map (Value.int .i64))) (hn : n ≤ 12) (hc : c ≤ 150)
    (hz : ∀ j, j < c → 0 ≤ zs.getD (j * 2) 0 ∧ zs.getD (j * 2) 0 < n) :
    Calls Try.prog 43 #[.int .i64 n, .slice A c cp] w fun e w' => e = .returned (.slice (some ⟨w.heap.size, 0, none⟩) n n) ∧ Blk w' w.heap.size 2 ((fstL n zs c).map (Value.int .i64)).toArray ∧ Below w.heap.size w w' := by
  obtain ⟨i0, hi, hz0, hz1, hz2⟩ := info_parts info_int64'
  have hmk := fun W => run_makeN (P := Try.prog) 24 2 i0 (.int .i64 0) Try.underlying24 hi hz0 .i64 .i64 n n (Nat.le_refl _) (by rw [hz2]; omega) (by omega) W
  rw [hz1, Nat.mul_one] at hmk
  have HZ := Lib.hid hz
  clear hz hi hz0 hz1 hz2
  go_enter Try.func43, Try.ntmps43
  go_wp2
  go_loopw [12] (fun i wr => ∃ k : Nat, k ≤ c ∧ i = .int .i64 k ∧ Blk wr w.heap.size 2 ((fstL n zs k).map (Value.int .i64)).toArray ∧ Below w.heap.size w wr) (fun i _ => c - (intOf i).toNat)
  case atStart =>
    refine ⟨0, Nat.zero_le _, rfl, ?_, by (repeat' (first | (with_reducible exact Below.refl _ _) | (with_reducible assumption) | (with_reducible refine Below.alloc ?_ ?_ _) | (with_reducible refine Below.drew ?_) | (with_reducible refine belowDrewN ?_ _) | (with_reducible refine Below.setCell ?_ ?_ _) | (with_reducible refine Below.via (by with_reducible assumption) ?_ ?_) | (with_reducible refine Below.viaD (by with_reducible assumption) ?_ ?_) | (with_reducible exact Below.size (by with_reducible assumption)) | go_size | (with_reducible refine Nat.le_trans ?_ (Below.size (by with_reducible assumption))) | (with_reducible refine Nat.le_trans ?_ (sizeAlloc _ _)) | (with_reducible refine Nat.le_trans ?_ (sizeSet _ _ _)) | (with_reducible refine Nat.le_trans ?_ (sizeDrew _))))⟩
    rw [fstL, List.map_replicate, ← made_one]
    exact Blk.new _ _ _
  case round =>
    obtain ⟨k, hk, rfl, hblk, hbl⟩ := hrel
    by_cases hlt : k < c
    · obtain ⟨b, off, rfl, hb, hl, hcc⟩ := (hs.below hbl).cellAt hlt
      obtain ⟨g1, g2⟩ := HZ.out k hlt
      obtain ⟨d, hd⟩ := Int.eq_ofNat_of_zero_le g1
      have hc0 := hcc 0 (by omega)
      have hc1 := hcc 1 (by omega)
      rw [Nat.add_zero, hd] at hc0
      rw [← Nat.add_assoc] at hc1
      obtain ⟨z1, hz1⟩ : ∃ z, zs.getD (k * 2 + 1) 0 = z := ⟨_, rfl⟩
      rw [hz1] at hc1
      have hdn : d < n := by omega
      have hset : fstL n zs (k + 1) = (fstL n zs k).set d ((fstL n zs k).getD d 0 + 1) := by
        rw [fstL, hd, Int.toNat_natCast]
      have hv := (hblk.cell d).trans (arr_get (by rw [fstL_len]; exact hdn))
      have hfr := hblk.free d
      have hgl := hblk.lt
      obtain ⟨v1, v2⟩ := fstL_bd n zs k d
      revert hset hv v1 v2
      generalize (fstL n zs k).getD d 0 = v
      intro hset hv v1 v2
      have HS := Lib.hid hset
      have HB := Lib.hid hblk
      clear hset hblk hcc hl hd g1 g2 hz1
      go_wp2
      go_roundw
      case rel =>
        refine ⟨k + 1, by omega, by go_num, ?_, by (repeat' (first | (with_reducible exact Below.refl _ _) | (with_reducible assumption) | (with_reducible refine Below.alloc ?_ ?_ _) | (with_reducible refine Below.drew ?_) | (with_reducible refine belowDrewN ?_ _) | (with_reducible refine Below.setCell ?_ ?_ _) | (with_reducible refine Below.via (by with_reducible assumption) ?_ ?_) | (with_reducible refine Below.viaD (by with_reducible assumption) ?_ ?_) | (with_reducible exact Below.size (by with_reducible assumption)) | go_size | (with_reducible refine Nat.le_trans ?_ (Below.size (by with_reducible assumption))) | (with_reducible refine Nat.le_trans ?_ (sizeAlloc _ _)) | (with_reducible refine Nat.le_trans ?_ (sizeSet _ _ _)) | (with_reducible refine Nat.le_trans ?_ (sizeDrew _))))⟩
        rw [HS.out, ← arr_set]
        exact (HB.out.set d _).later (Below.alloc (Below.refl _ _) (Nat.le_refl _) _)
      case measure => first | (simp [intOf]; done) | (simp [intOf]; omega)
    · obtain rfl : k = c := by omega
      go_wp2
      go_ret
      exact ⟨rfl, hblk, by (repeat' (first | (with_reducible exact Below.refl _ _) | (with_reducible assumption) | (with_reducible refine Below.alloc ?_ ?_ _) | (with_reducible refine Below.drew ?_) | (with_reducible refine belowDrewN ?_ _) | (with_reducible refine Below.setCell ?_ ?_ _) | (with_reducible refine Below.via (by with_reducible assumption) ?_ ?_) | (with_reducible refine Below.viaD (by with_reducible assumption) ?_ ?_) | (with_reducible exact Below.size (by with_reducible assumption)) | go_size | (with_reducible refine Nat.le_trans ?_ (Below.size (by with_reducible assumption))) | (with_reducible refine Nat.le_trans ?_ (sizeAlloc _ _)) | (with_reducible refine Nat.le_trans ?_ (sizeSet _ _ _)) | (with_reducible refine Nat.le_trans ?_ (sizeDrew _))))⟩
def fstLst (n : Int) (zs : List Int) (c : Nat) : List Int := if validM n zs then fstL n.toNat zs c else []
def fstCode (n : Int) (zs : List Int) : Int := if validM n zs then 0 else 1
theorem fst_no {n : Int} {zs : List Int} {c : Nat} (h : validM n zs = false) : fstLst n zs c = [] ∧ fstCode n zs = 1 := by rw [fstLst, fstCode, h]; exact ⟨rfl, rfl⟩
theorem fst_yes {n : Nat} {zs : List Int} {c : Nat} (h : validM n zs = true) : fstLst n zs c = fstL n zs c ∧ fstCode n zs = 0 := by rw [fstLst, fstCode, h]; exact ⟨rfl, rfl⟩
/-- What FirstsOf returns: a list of its own, and the code. -/
def FirstsPost (P : Program) (n : Int) (zs : List Int) (c : Nat) (w : World) (e : Ending) (w' : World) : Prop :=
  ∃ (A : Option Addr) (g q : Nat), e = .returned (.tuple #[.slice A q q, .int .i64 (fstCode n zs)]) ∧ w.heap.size ≤ g ∧ Own w' g 2 1 A q (fstLst n zs c) ∧ q ≤ 12 ∧ Below w.heap.size w w'
theorem own_of_blk {w : World} {g : Nat} {t : TypeId} {n : Nat} {L : List Int} (h : Blk w g t (L.map (Value.int .i64)).toArray) (hl : L.length = n) : Own w g t 1 (some ⟨g, 0, none⟩) n L :=
  ⟨by omega, fun _ => ⟨rfl, [], by simpa using h⟩⟩
end Go.Proofs.Yteeplmnjipddaaa
