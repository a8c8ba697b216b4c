/- Slots compared and marked; NewMemory of the reference. No conditions. -/
import Derived.Test.YtpcenpedbdenmaaMem1
import Derived.Test.YtpcenpedbdenmaaApp
import Derived.Test.YtpcenpedbdenmaaLists
namespace Go.Proofs.Ytpcenpedbdenmaa
set_option linter.unusedSimpArgs false
set_option linter.unusedVariables false
open Go.RowKit

set_option maxHeartbeats 2000000 in
theorem sNewMemory_any (r r2 : Ru) (size code : Int) (n : Nat) (hr : nmR r size = (r2, n, code)) (w : World) : Calls Try.prog 11 #[.agg #[.int .i64 r.p, .int .i64 r.s, .bool r.st, .bool r.sk, .bool r.re, .bool r.fe, .bool r.ag, .int .i64 r.ca, .int .i64 r.sl], .int .i64 size] w (NmPost r2 n code w) := by
  unfold nmR at hr
  cases q : okRu r
  case false =>
    rw [q, if_neg (by simp)] at hr
    obtain ⟨rfl, rfl, rfl⟩ := tripR hr
    go_enter Try.func11, Try.ntmps11
    go_wp2_with (go_at_call 41; refine (l02Ok_any r _ _ _ ((RuAt.box _ _ _).later (boxed_ _ _))).mono ?_; rintro e w_ ⟨rfl, rfl⟩)
    go_returns
    exact ⟨none, w.heap.size, rfl, Nat.le_refl _, (by first | (simp; done) | (simp; omega)), ownV_none0 _ _ _ _ _, by omega, by (repeat' (first | (with_reducible exact Below.refl _ _) | (with_reducible assumption) | (with_reducible refine Below.alloc ?_ ?_ _) | (with_reducible refine Below.drew ?_) | (with_reducible refine belowDrewN ?_ _) | (with_reducible refine Below.setCell ?_ ?_ _) | (with_reducible refine Below.via (by with_reducible assumption) ?_ ?_) | (with_reducible refine Below.viaD (by with_reducible assumption) ?_ ?_) | (with_reducible exact Below.size (by with_reducible assumption)) | go_size | (with_reducible refine Nat.le_trans ?_ (Below.size (by with_reducible assumption))) | (with_reducible refine Nat.le_trans ?_ (sizeAlloc _ _)) | (with_reducible refine Nat.le_trans ?_ (sizeSet _ _ _)) | (with_reducible refine Nat.le_trans ?_ (sizeDrew _))))⟩
  case true =>
    rw [q, if_pos rfl] at hr
    cases q2 : inB size 1 64
    case false =>
      rw [q2, if_neg (by simp)] at hr
      obtain ⟨rfl, rfl, rfl⟩ := tripR hr
      go_enter Try.func11, Try.ntmps11
      go_wp2_with (first | (go_at_call 41; refine (l02Ok_any r _ _ _ ((RuAt.box _ _ _).later (boxed_ _ _))).mono ?_; rintro e w_ ⟨rfl, rfl⟩) | (go_at_call 42; refine (l00In_any _ _ _ _).mono ?_; rintro e w_ ⟨rfl, rfl⟩))
      go_returns
      exact ⟨none, w.heap.size, rfl, Nat.le_refl _, (by first | (simp; done) | (simp; omega)), ownV_none0 _ _ _ _ _, by omega, by (repeat' (first | (with_reducible exact Below.refl _ _) | (with_reducible assumption) | (with_reducible refine Below.alloc ?_ ?_ _) | (with_reducible refine Below.drew ?_) | (with_reducible refine belowDrewN ?_ _) | (with_reducible refine Below.setCell ?_ ?_ _) | (with_reducible refine Below.via (by with_reducible assumption) ?_ ?_) | (with_reducible refine Below.viaD (by with_reducible assumption) ?_ ?_) | (with_reducible exact Below.size (by with_reducible assumption)) | go_size | (with_reducible refine Nat.le_trans ?_ (Below.size (by with_reducible assumption))) | (with_reducible refine Nat.le_trans ?_ (sizeAlloc _ _)) | (with_reducible refine Nat.le_trans ?_ (sizeSet _ _ _)) | (with_reducible refine Nat.le_trans ?_ (sizeDrew _))))⟩
    case true =>
      rw [q2, if_pos rfl] at hr
      obtain ⟨rfl, hn, rfl⟩ := tripR hr
      obtain ⟨h1, h2⟩ := inB_of q2
      obtain ⟨m, rfl⟩ := Int.eq_ofNat_of_zero_le (show 0 ≤ size by omega)
      rw [Int.toNat_natCast] at hn
      subst hn
      obtain ⟨i0, hi, hz0, hz1, hz2⟩ := info_parts info_Slot
      have hmk := fun W => run_makeN (P := Try.prog) 25 81 i0 (.agg zC) Try.underlying25 hi hz0 .i64 .i64 m m (Nat.le_refl _) (by rw [hz2]; omega) (by omega) W
      rw [hz1, zeroS_made] at hmk
      clear hi hz0 hz1 hz2
      go_enter Try.func11, Try.ntmps11
      go_wp2_with (first | (go_at_call 41; refine (l02Ok_any r _ _ _ ((RuAt.box _ _ _).later (boxed_ _ _))).mono ?_; rintro e w_ ⟨rfl, rfl⟩) | (go_at_call 42; refine (l00In_any _ _ _ _).mono ?_; rintro e w_ ⟨rfl, rfl⟩))
      go_region_with fail
      all_goals
        go_wp2_with fail
        go_returns
        exact ⟨_, _, rfl, by (repeat' (first | (with_reducible exact Below.refl _ _) | (with_reducible assumption) | (with_reducible refine Below.alloc ?_ ?_ _) | (with_reducible refine Below.drew ?_) | (with_reducible refine belowDrewN ?_ _) | (with_reducible refine Below.setCell ?_ ?_ _) | (with_reducible refine Below.via (by with_reducible assumption) ?_ ?_) | (with_reducible refine Below.viaD (by with_reducible assumption) ?_ ?_) | (with_reducible exact Below.size (by with_reducible assumption)) | go_size | (with_reducible refine Nat.le_trans ?_ (Below.size (by with_reducible assumption))) | (with_reducible refine Nat.le_trans ?_ (sizeAlloc _ _)) | (with_reducible refine Nat.le_trans ?_ (sizeSet _ _ _)) | (with_reducible refine Nat.le_trans ?_ (sizeDrew _)))), (by first | (simp; done) | (simp; omega)), ownV_made (Blk.new' (by simp)), by omega, by (repeat' (first | (with_reducible exact Below.refl _ _) | (with_reducible assumption) | (with_reducible refine Below.alloc ?_ ?_ _) | (with_reducible refine Below.drew ?_) | (with_reducible refine belowDrewN ?_ _) | (with_reducible refine Below.setCell ?_ ?_ _) | (with_reducible refine Below.via (by with_reducible assumption) ?_ ?_) | (with_reducible refine Below.viaD (by with_reducible assumption) ?_ ?_) | (with_reducible exact Below.size (by with_reducible assumption)) | go_size | (with_reducible refine Nat.le_trans ?_ (Below.size (by with_reducible assumption))) | (with_reducible refine Nat.le_trans ?_ (sizeAlloc _ _)) | (with_reducible refine Nat.le_trans ?_ (sizeSet _ _ _)) | (with_reducible refine Nat.le_trans ?_ (sizeDrew _))))⟩
set_option maxHeartbeats 1000000 in
theorem eqSlot_zero (w : World) : Calls Try.prog 72 #[.agg #[.bool false, .slice none 0 0, .int .i64 0, .int .i64 0, .int .i64 0, .int .i64 0], .agg #[.bool false, .slice none 0 0, .int .i64 0, .int .i64 0, .int .i64 0, .int .i64 0]] w fun e w' => e = .returned (.bool true) ∧ Below w.heap.size w w' := by
  go_enter Try.func72, Try.ntmps72
  go_wp2_with fail
  refine (eqInt64S_any none none 0 0 0 0 [] [] _ (Sl.nil _ _ _ _) (Sl.nil _ _ _ _) (by omega) (by omega)).mono ?_
  rintro e w1 ⟨rfl, hb1⟩
  obtain ⟨hc1, hf1, hl1, hz1⟩ := bfacts hb1
  have hq : (([] : List Int) == []) = true := rfl
  go_wp2_with fail
  go_ret
  exact ⟨rfl, by (repeat' (first | (with_reducible exact Below.refl _ _) | (with_reducible assumption) | (with_reducible refine Below.alloc ?_ ?_ _) | (with_reducible refine Below.drew ?_) | (with_reducible refine belowDrewN ?_ _) | (with_reducible refine Below.setCell ?_ ?_ _) | (with_reducible refine Below.via (by with_reducible assumption) ?_ ?_) | (with_reducible refine Below.viaD (by with_reducible assumption) ?_ ?_) | (with_reducible exact Below.size (by with_reducible assumption)) | go_size | (with_reducible refine Nat.le_trans ?_ (Below.size (by with_reducible assumption))) | (with_reducible refine Nat.le_trans ?_ (sizeAlloc _ _)) | (with_reducible refine Nat.le_trans ?_ (sizeSet _ _ _)) | (with_reducible refine Nat.le_trans ?_ (sizeDrew _))))⟩
/-- The cells of an empty slot. -/
theorem slot_cells {w : World} {B n : Nat} {A : Option Addr} (h : Sl w B 6 A n (zeroS n)) {k : Nat} (hk : k < n) : ∃ b off, A = some ⟨b, off, none⟩ ∧ b < B ∧ w.cell? ⟨b, off + k * 6, none⟩ = some (.bool false) ∧ w.cell? ⟨b, off + k * 6 + 1, none⟩ = some (.slice none 0 0) ∧
    w.cell? ⟨b, off + k * 6 + 2, none⟩ = some (.int .i64 0) ∧ w.cell? ⟨b, off + k * 6 + 3, none⟩ = some (.int .i64 0) ∧ w.cell? ⟨b, off + k * 6 + 4, none⟩ = some (.int .i64 0) ∧ w.cell? ⟨b, off + k * 6 + 5, none⟩ = some (.int .i64 0) := by
  obtain ⟨b, off, e, hb, _, hc⟩ := h.cellV hk
  have hkn : k * 6 + 6 ≤ n * 6 := by rw [← Nat.succ_mul]; exact Nat.mul_le_mul_right _ hk
  have c : ∀ j, j < 6 → w.cell? ⟨b, off + k * 6 + j, none⟩ = some (zS (k * 6 + j)) := by
    intro j hj
    have := hc j _ hj (zeroS_at (by omega))
    rwa [← Nat.add_assoc] at this
  have z : ∀ j, j < 6 → zS (k * 6 + j) = if j = 0 then .bool false else if j = 1 then .slice none 0 0 else .int .i64 0 := by
    intro j hj
    have : (k * 6 + j) % 6 = j := by omega
    rw [zS, this]
  exact ⟨b, off, e, hb, by have := c 0 (by omega); rwa [z 0 (by omega)] at this, by have := c 1 (by omega); rwa [z 1 (by omega)] at this, by have := c 2 (by omega); rwa [z 2 (by omega)] at this, by have := c 3 (by omega); rwa [z 3 (by omega)] at this, by have := c 4 (by omega); rwa [z 4 (by omega)] at this, by have := c 5 (by omega); rwa [z 5 (by omega)] at this⟩
set_option maxHeartbeats 1000000 in
theorem eqSlotS_zero (A A' : Option Addr) (n c c' : Nat) (w : World) (hs : Sl w w.heap.size 6 A n (zeroS n)) (hs' : Sl w w.heap.size 6 A' n (zeroS n)) (hn : n ≤ 64) :
    Calls Try.prog 46 #[.slice A n c, .slice A' n c'] w fun e w' => e = .returned (.bool true) ∧ Below w.heap.size w w' := by
  go_enter Try.func46, Try.ntmps46
  go_wp2
  go_loopw [5] (fun i wr => ∃ k : Nat, k ≤ n ∧ i = .int .i64 k ∧ Below w.heap.size w wr) (fun i _ => n - (intOf i).toNat)
  case atStart => exact ⟨0, Nat.zero_le _, rfl, by (repeat' (first | (with_reducible exact Below.refl _ _) | (with_reducible assumption) | (with_reducible refine Below.alloc ?_ ?_ _) | (with_reducible refine Below.drew ?_) | (with_reducible refine belowDrewN ?_ _) | (with_reducible refine Below.setCell ?_ ?_ _) | (with_reducible refine Below.via (by with_reducible assumption) ?_ ?_) | (with_reducible refine Below.viaD (by with_reducible assumption) ?_ ?_) | (with_reducible exact Below.size (by with_reducible assumption)) | go_size | (with_reducible refine Nat.le_trans ?_ (Below.size (by with_reducible assumption))) | (with_reducible refine Nat.le_trans ?_ (sizeAlloc _ _)) | (with_reducible refine Nat.le_trans ?_ (sizeSet _ _ _)) | (with_reducible refine Nat.le_trans ?_ (sizeDrew _))))⟩
  case round =>
    obtain ⟨k, hk, rfl, hbl⟩ := hrel
    by_cases hlt : k < n
    · obtain ⟨b, off, rfl, hb, c0, c1, c2, c3, c4, c5⟩ := slot_cells (hs.below hbl) hlt
      obtain ⟨b', off', rfl, hb', d0, d1, d2, d3, d4, d5⟩ := slot_cells (hs'.below hbl) hlt
      go_wp2_with fail
      go_region_with (go_at_call 72; refine (eqSlot_zero _).mono ?_; rintro e w1 ⟨rfl, hb1⟩; have hbu := Below.undrew hb1)
      all_goals
        go_wp2_with fail
        go_roundw
        case rel => exact ⟨k + 1, by omega, by go_num, by (repeat' (first | (with_reducible exact Below.refl _ _) | (with_reducible assumption) | (with_reducible refine Below.alloc ?_ ?_ _) | (with_reducible refine Below.drew ?_) | (with_reducible refine belowDrewN ?_ _) | (with_reducible refine Below.setCell ?_ ?_ _) | (with_reducible refine Below.via (by with_reducible assumption) ?_ ?_) | (with_reducible refine Below.viaD (by with_reducible assumption) ?_ ?_) | (with_reducible exact Below.size (by with_reducible assumption)) | go_size | (with_reducible refine Nat.le_trans ?_ (Below.size (by with_reducible assumption))) | (with_reducible refine Nat.le_trans ?_ (sizeAlloc _ _)) | (with_reducible refine Nat.le_trans ?_ (sizeSet _ _ _)) | (with_reducible refine Nat.le_trans ?_ (sizeDrew _))))⟩
        case measure => first | (simp [intOf]; done) | (simp [intOf]; omega)
    · obtain rfl : k = n := by omega
      go_wp2
      go_ret
      exact ⟨rfl, hbl⟩
theorem markInt_nil (k : Int) (w : World) : Calls Try.prog 73 #[.slice none 0 0, .int .i64 k] w fun e w' => e = .returned (.int .i64 k) ∧ w = w' := by
  go_enter Try.func73, Try.ntmps73
  go_wp2
  go_loop [1, 5] (fun l i => i = .int .i64 0 ∧ l = .int .i64 k) (fun _ _ => 0)
  case atStart => exact ⟨rfl, rfl⟩
  case round =>
    obtain ⟨rfl, rfl⟩ := hrel
    go_wp2
    go_ret
    exact ⟨rfl, rfl⟩
theorem heldInt_nil (k : Int) (w : World) : Calls Try.prog 74 #[.slice none 0 0, .int .i64 k] w fun e w' => e = .returned (.int .i64 k) ∧ w = w' := by
  go_enter Try.func74, Try.ntmps74
  go_wp2
  go_loop [1, 5] (fun l i => i = .int .i64 0 ∧ l = .int .i64 k) (fun _ _ => 0)
  case atStart => exact ⟨rfl, rfl⟩
  case round =>
    obtain ⟨rfl, rfl⟩ := hrel
    go_wp2
    go_ret
    exact ⟨rfl, rfl⟩
theorem mkS_0 (k0 : Int) (k : Nat) : mkS k0 (k * 6) = .bool ((k0 + (k : Int) * 5) % 3 == 0) := by
  rw [mkS, if_pos (by omega), show k * 6 / 6 * 5 = k * 5 from by omega]
  exact congrArg (fun x : Int => Value.bool ((k0 + x) % 3 == 0)) (by omega)
theorem mkS_1 (k0 : Int) (k : Nat) : mkS k0 (k * 6 + 1) = .slice none 0 0 := by rw [mkS, if_neg (by omega), if_pos (by omega)]
theorem mkS_j (k0 : Int) (k j : Nat) (h : j < 4) : mkS k0 (k * 6 + (j + 2)) = .int .i64 (k0 + (k : Int) * 5 + 1 + (j : Int)) := by
  rw [mkS, if_neg (by omega), if_neg (by omega), show (k * 6 + (j + 2)) / 6 * 5 + ((k * 6 + (j + 2)) % 6 - 1) = k * 5 + 1 + j from by omega]
  exact congrArg (Value.int .i64) (by omega)
theorem set_same {arr : Array Value} {i : Nat} {v : Value} (h : arr[i]? = some v) : arr.setIfInBounds i v = arr := by
  apply Array.ext_getElem?
  intro j
  rw [Array.getElem?_setIfInBounds]
  by_cases hij : i = j
  · subst hij
    rw [if_pos rfl, h, if_pos (Array.getElem?_eq_some_iff.1 h).1]
  · rw [if_neg hij]
set_option maxHeartbeats 2000000 in
theorem markSlotS_any (A : Option Addr) (n c g : Nat) (k0 : Int) (w : World) (ho : OwnV w g 81 6 A n (zeroS n)) (hn : n ≤ 64) (h0 : 0 ≤ k0) (h1 : k0 ≤ 1048576) :
    Calls Try.prog 47 #[.slice A n c, .int .i64 k0] w fun e w' => e = .returned (.int .i64 (k0 + (n * 5 : Nat))) ∧ OwnV w' g 81 6 A n ((List.range (n * 6)).map (mkS k0)) ∧ w.grownBy w' (some g) := by
  have HL := Lib.hid ho.len
  obtain ⟨rest, hr⟩ := ho.rest
  have HR := Lib.hid hr
  clear hr ho
  go_enter Try.func47, Try.ntmps47
  go_wp2
  go_loopw [1, 5] (fun kk i wr => ∃ k : Nat, k ≤ n ∧ i = .int .i64 k ∧ kk = .int .i64 (k0 + (k * 5 : Nat)) ∧ MarkRelV wr g 81 A n (zeroS n) rest (mkS k0) (k * 6) ∧ w.grownBy wr (some g)) (fun _ i _ => n - (intOf i).toNat)
  case atStart => exact ⟨0, Nat.zero_le _, rfl, by simp, fun h => by rw [Nat.zero_mul, markV_zero]; exact HR.out h, World.grownBy.refl _ _⟩
  case round =>
    obtain ⟨k, hk, rfl, rfl, hblk, hgr⟩ := hrel
    by_cases hlt : k < n
    · obtain ⟨rfl, hb⟩ := hblk (by omega)
      have hkl : k * 6 + 6 ≤ (zeroS n).length := by rw [HL.out, ← Nat.succ_mul]; exact Nat.mul_le_mul_right _ hlt
      have hkn : k * 6 + 6 ≤ n * 6 := by rw [← Nat.succ_mul]; exact Nat.mul_le_mul_right _ hlt
      have z : ∀ j, j < 6 → (zeroS n)[k * 6 + j]? = some (if j = 0 then .bool false else if j = 1 then .slice none 0 0 else .int .i64 0) := by
        intro j hj
        rw [zeroS_at (by omega)]
        have : (k * 6 + j) % 6 = j := by omega
        rw [zS, this]
      have cc : ∀ j, j < 6 → wr.cell? ⟨g, k * 6 + j, none⟩ = some (if j = 0 then .bool false else if j = 1 then .slice none 0 0 else .int .i64 0) := fun j hj =>
        ((hb.cell (k * 6 + j)).trans (markV_get (mkS k0) (zeroS n) rest (k * 6) (k * 6 + j) (by omega) (by omega))).trans (z j hj)
      have c0 : wr.cell? ⟨g, k * 6, none⟩ = some (.bool false) := cc 0 (by omega)
      have c1 : wr.cell? ⟨g, k * 6 + 1, none⟩ = some (.slice none 0 0) := cc 1 (by omega)
      have c2 : wr.cell? ⟨g, k * 6 + 2, none⟩ = some (.int .i64 0) := cc 2 (by omega)
      have c3 : wr.cell? ⟨g, k * 6 + 3, none⟩ = some (.int .i64 0) := cc 3 (by omega)
      have c4 : wr.cell? ⟨g, k * 6 + 4, none⟩ = some (.int .i64 0) := cc 4 (by omega)
      have c5 : wr.cell? ⟨g, k * 6 + 5, none⟩ = some (.int .i64 0) := cc 5 (by omega)
      have f0 := hb.free (k * 6)
      have f2 := hb.free (k * 6 + 2)
      have f3 := hb.free (k * 6 + 3)
      have f4 := hb.free (k * 6 + 4)
      have f5 := hb.free (k * 6 + 5)
      have Z := Lib.hid (z 1 (by omega))
      have HB := Lib.hid hb
      clear hb hblk cc z
      go_wp2_with (go_at_call 73; refine (markInt_nil _ _).mono ?_; rintro e w_ ⟨rfl, rfl⟩)
      go_roundw
      case rel =>
        have hnil : markV (mkS k0) (zeroS n) rest (k * 6 + 1) = markV (mkS k0) (zeroS n) rest (k * 6 + 2) := by
          have h5 := markV_set (mkS k0) (zeroS n) rest (k * 6 + 1) (by omega) (.slice none 0 0) (mkS_1 k0 k).symm
          rw [← h5]
          exact (set_same ((markV_get (mkS k0) (zeroS n) rest (k * 6 + 1) (k * 6 + 1) (by omega) (by omega)).trans Z.out)).symm
        have hset : markV (mkS k0) (zeroS n) rest ((k + 1) * 6) = (((((markV (mkS k0) (zeroS n) rest (k * 6)).setIfInBounds (k * 6) (.bool ((k0 + (k : Int) * 5) % 3 == 0))).setIfInBounds (k * 6 + 2) (.int .i64 (k0 + (k : Int) * 5 + 1))).setIfInBounds (k * 6 + 3) (.int .i64 (k0 + (k : Int) * 5 + 1 + 1))).setIfInBounds (k * 6 + 4) (.int .i64 (k0 + (k : Int) * 5 + 1 + 1 + 1))).setIfInBounds (k * 6 + 5) (.int .i64 (k0 + (k : Int) * 5 + 1 + 1 + 1 + 1)) := by
          rw [markV_set (mkS k0) (zeroS n) rest (k * 6) (by omega) _ (mkS_0 k0 k).symm, hnil]
          rw [markV_set (mkS k0) (zeroS n) rest (k * 6 + 2) (by omega) _ (by rw [mkS_j k0 k 0 (by omega)]; exact congrArg (Value.int .i64) (by omega))]
          rw [markV_set (mkS k0) (zeroS n) rest (k * 6 + 3) (by omega) _ (by rw [mkS_j k0 k 1 (by omega)]; exact congrArg (Value.int .i64) (by omega))]
          rw [markV_set (mkS k0) (zeroS n) rest (k * 6 + 4) (by omega) _ (by rw [mkS_j k0 k 2 (by omega)]; exact congrArg (Value.int .i64) (by omega))]
          rw [markV_set (mkS k0) (zeroS n) rest (k * 6 + 5) (by omega) _ (by rw [mkS_j k0 k 3 (by omega)]; exact congrArg (Value.int .i64) (by omega))]
          rw [Nat.succ_mul]
        refine ⟨k + 1, by omega, by go_num, by go_num, ?_, ?_⟩
        · intro _
          refine ⟨rfl, ?_⟩
          rw [hset]
          exact (Blk.set (Blk.set (Blk.set (Blk.set (Blk.set HB.out (k * 6) _) (k * 6 + 2) _) (k * 6 + 3) _) (k * 6 + 4) _) (k * 6 + 5) _)
        · exact (only_setCell (p := ⟨g, (k * 6 + 5), none⟩) (only_setCell (p := ⟨g, (k * 6 + 4), none⟩) (only_setCell (p := ⟨g, (k * 6 + 3), none⟩) (only_setCell (p := ⟨g, (k * 6 + 2), none⟩) (only_setCell (p := ⟨g, (k * 6), none⟩) hgr (.inl rfl) _) (.inl rfl) _) (.inl rfl) _) (.inl rfl) _) (.inl rfl) _)
      case measure => first | (simp [intOf]; done) | (simp [intOf]; omega)
    · obtain rfl : k = n := by omega
      go_wp2
      go_ret
      exact ⟨rfl, hblk.own HL.out, hgr⟩
set_option maxHeartbeats 2000000 in
theorem heldSlotS_any (A : Option Addr) (n c : Nat) (k0 : Int) (w : World) (hs : Sl w w.heap.size 6 A n ((List.range (n * 6)).map (mkS k0))) (hn : n ≤ 64) (h0 : 0 ≤ k0) (h1 : k0 ≤ 1048576) :
    Calls Try.prog 48 #[.slice A n c, .int .i64 k0] w fun e w' => e = .returned (.int .i64 (k0 + (n * 5 : Nat))) ∧ w = w' := by
  go_enter Try.func48, Try.ntmps48
  go_wp2
  go_loop [1, 5] (fun kk i => ∃ k : Nat, k ≤ n ∧ i = .int .i64 k ∧ kk = .int .i64 (k0 + (k * 5 : Nat))) (fun _ i => n - (intOf i).toNat)
  case atStart => exact ⟨0, Nat.zero_le _, rfl, by simp⟩
  case round =>
    obtain ⟨k, hk, rfl, rfl⟩ := hrel
    by_cases hlt : k < n
    · obtain ⟨b, off, rfl, hb, hl, hc⟩ := hs.cellV hlt
      have hkn : k * 6 + 6 ≤ n * 6 := by rw [← Nat.succ_mul]; exact Nat.mul_le_mul_right _ hlt
      have hx : ∀ p, p < n * 6 → ((List.range (n * 6)).map (mkS k0))[p]? = some (mkS k0 p) := fun p hp => by rw [List.getElem?_map, List.getElem?_range hp]; rfl
      have hc0 := hc 0 _ (by omega) (hx _ (by omega))
      have hc1 := hc 1 _ (by omega) (hx _ (by omega))
      have hc2 := hc 2 _ (by omega) (hx _ (by omega))
      have hc3 := hc 3 _ (by omega) (hx _ (by omega))
      have hc4 := hc 4 _ (by omega) (hx _ (by omega))
      have hc5 := hc 5 _ (by omega) (hx _ (by omega))
      rw [Nat.add_zero, mkS_0] at hc0
      rw [mkS_1, ← Nat.add_assoc] at hc1
      rw [mkS_j k0 k 0 (by omega), ← Nat.add_assoc, show k0 + (k : Int) * 5 + 1 + ((0 : Nat) : Int) = k0 + (k : Int) * 5 + 1 from by omega] at hc2
      rw [mkS_j k0 k 1 (by omega), ← Nat.add_assoc, show k0 + (k : Int) * 5 + 1 + ((1 : Nat) : Int) = k0 + (k : Int) * 5 + 1 + 1 from by omega] at hc3
      rw [mkS_j k0 k 2 (by omega), ← Nat.add_assoc, show k0 + (k : Int) * 5 + 1 + ((2 : Nat) : Int) = k0 + (k : Int) * 5 + 1 + 1 + 1 from by omega] at hc4
      rw [mkS_j k0 k 3 (by omega), ← Nat.add_assoc, show k0 + (k : Int) * 5 + 1 + ((3 : Nat) : Int) = k0 + (k : Int) * 5 + 1 + 1 + 1 + 1 from by omega] at hc5
      clear hc hl hx
      cases hq3 : ((k0 + (k : Int) * 5) % 3 == 0)
      all_goals
        rw [hq3] at hc0
        go_wp2_with (go_at_call 74; refine (heldInt_nil _ _).mono ?_; rintro e w_ ⟨rfl, rfl⟩)
        go_round
        case rel => exact ⟨k + 1, by omega, by go_num, by go_num⟩
        case measure => first | (simp [intOf]; done) | (simp [intOf]; omega)
    · obtain rfl : k = n := by omega
      go_wp2
      go_ret
      exact ⟨rfl, rfl⟩
end Go.Proofs.Ytpcenpedbdenmaa
