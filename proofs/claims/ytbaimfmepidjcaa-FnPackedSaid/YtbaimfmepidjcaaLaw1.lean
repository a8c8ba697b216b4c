/- The laws' own small helpers: lengths, a byte's remainder, equal lists; PutNumber. Conditions: lengths below 2^40. -/
import Derived.Test.YtbaimfmepidjcaaSrc2
import Derived.Test.YtbaimfmepidjcaaPack6
namespace Go.Proofs.Ytbaimfmepidjcaa
set_option linter.unusedSimpArgs false
set_option linter.unusedVariables false
open Go.RowKit Go.WideShapes

def LongPost (n n' : Nat) (w : World) (e : Ending) (w' : World) : Prop := ∃ q, e = .returned (.bool q) ∧ (q = false → n ≤ 3000 ∧ n' ≤ 3000) ∧ w = w'
set_option maxHeartbeats 1000000 in
theorem a2Long_any (A A' : Option Addr) (n c n' c' : Nat) (w : World) : Calls Try.prog 11 #[.slice A n c, .slice A' n' c'] w (LongPost n n' w) := by
  by_cases h1 : 3000 < n
  case pos =>
    go_enter Try.func11, Try.ntmps11
    go_wp2
    go_ret
    exact ⟨true, rfl, fun h => by simp at h, rfl⟩
  case neg =>
    have h3 : decide (3000 < (n : Int)) = false := by simp; omega
    by_cases h2 : 3000 < n'
    case pos =>
      have h4 : decide (3000 < (n' : Int)) = true := by simp; omega
      go_enter Try.func11, Try.ntmps11
      go_wp2
      go_ret
      exact ⟨true, by rw [← h4]; first | rfl | (simp [h3, h4]), fun h => by simp at h, rfl⟩
    case neg =>
      have h4 : decide (3000 < (n' : Int)) = false := by simp; omega
      go_enter Try.func11, Try.ntmps11
      go_wp2
      go_ret
      exact ⟨false, by first | rfl | (simp [h3, h4]), fun _ => by omega, rfl⟩
def atL (cs : List Int) (k m : Nat) : Nat := if cs.length ≤ k then 0 else (cs.getD k 0).toNat % m
theorem atL_lt {cs : List Int} {k m : Nat} (hc : ∀ z ∈ cs, 0 ≤ z ∧ z ≤ 255) (hm : 1 ≤ m) : atL cs k m < m ∧ atL cs k m ≤ 255 := by
  unfold atL
  split
  · omega
  · have hz := hc _ (getD_mem 0 (show k < cs.length by omega))
    exact ⟨Nat.mod_lt _ (by omega), Nat.le_trans (Nat.mod_le _ _) (by omega)⟩
set_option maxHeartbeats 1000000 in
theorem a2At_lit (A : Option Addr) (n c k m : Nat) (cs : List Int) (w : World) (hs : Sl w w.heap.size 1 A n (cs.map (Value.int .u8))) (hc : ∀ z ∈ cs, 0 ≤ z ∧ z ≤ 255) (hn : n ≤ 3000) (hk : k ≤ 3000) (hm : 1 ≤ m) (hm2 : m ≤ 1000000) :
    Calls Try.prog 16 #[.slice A n c, .int .i64 k, .int .i64 m] w fun e w' => e = .returned (.int .i64 (atL cs k m : Nat)) ∧ w = w' := by
  have hl : cs.length = n := by have := hs.1; simpa using this
  by_cases h1 : n ≤ k
  case pos =>
    clear hs
    have ha : atL cs k m = 0 := by rw [atL, if_pos (by omega)]
    rw [ha]
    go_enter Try.func16, Try.ntmps16
    go_wp2
    go_ret
    exact ⟨rfl, rfl⟩
  case neg =>
    obtain ⟨b, off, rfl, hb, hcl⟩ := hs.2 (by omega)
    have hx := hcl k (.int .u8 (cs.getD k 0)) (by rw [List.getElem?_map, List.getElem?_eq_getElem (by omega), List.getD_eq_getElem?_getD, List.getElem?_eq_getElem (by omega)]; rfl)
    have hz := hc _ (getD_mem 0 (show k < cs.length by omega))
    obtain ⟨z, hz2⟩ : ∃ z : Nat, cs.getD k 0 = (z : Int) := ⟨(cs.getD k 0).toNat, by omega⟩
    rw [hz2] at hx hz
    have hz3 : z ≤ 255 := by omega
    have hlt : z % m < m := Nat.mod_lt _ (by omega)
    have hle : z % m ≤ z := Nat.mod_le _ _
    have htm : (z : Int).tmod (m : Int) = ((z % m : Nat) : Int) := by rw [Int.tmod_eq_emod_of_nonneg (by omega)]; rfl
    have ha : atL cs k m = z % m := by rw [atL, if_neg (by omega), hz2]; simp
    rw [ha]
    have HLT := Lib.hid hlt
    clear ha
    have HLE := Lib.hid hle
    clear hs hcl hz2 hz hl hlt hle
    go_enter Try.func16, Try.ntmps16
    go_wp2
    go_ret
    exact ⟨rfl, rfl⟩
theorem a2At_any (A : Option Addr) (n c k m : Nat) (cs : List Int) (w : World) (hs : Sl w w.heap.size 1 A n (cs.map (Value.int .u8))) (hc : ∀ z ∈ cs, 0 ≤ z ∧ z ≤ 255) (hn : n ≤ 3000) (hk : k ≤ 3000) (hm : 1 ≤ m) (hm2 : m ≤ 1000000) :
    Calls Try.prog 16 #[.slice A n c, .int .i64 k, .int .i64 m] w fun e w' => ∃ x : Nat, e = .returned (.int .i64 x) ∧ x < m ∧ x ≤ 255 ∧ w = w' :=
  (a2At_lit A n c k m cs w hs hc hn hk hm hm2).mono fun e w' h => ⟨_, h.1, (atL_lt hc hm).1, (atL_lt hc hm).2, h.2⟩
set_option maxRecDepth 100000 in
set_option maxHeartbeats 2000000 in
theorem a2Numbers_any (A A' : Option Addr) (n c n' c' : Nat) (zs : List Int) (w : World) (hs : Sl w w.heap.size 1 A n (zs.map (Value.int .i64))) (hs' : Sl w w.heap.size 1 A' n' (zs.map (Value.int .i64))) (hn : n ≤ 1048576) :
    Calls Try.prog 15 #[.slice A n c, .slice A' n' c'] w fun e w' => e = .returned (.bool true) ∧ Below w.heap.size w w' := by
  obtain rfl : n = n' := by rw [← hs.ints, ← hs'.ints]
  have HS := Lib.hid hs
  have HS' := Lib.hid hs'
  clear hs hs'
  go_enter Try.func15, Try.ntmps15
  go_wp2
  go_loopw [5] (fun i wr => ∃ k : Nat, i = .int .i64 k ∧ k ≤ n ∧ Below w.heap.size w wr) (fun i _ => n - (intOf i).toNat)
  case atStart => exact ⟨0, rfl, by omega, by (repeat' (first | (with_reducible exact Below.refl _ _) | (with_reducible assumption) | (with_reducible refine Below.alloc ?_ ?_ _) | (with_reducible refine Below.drew ?_) | (with_reducible refine belowDrewN ?_ _) | (with_reducible refine Below.setCell ?_ ?_ _) | (with_reducible refine Below.via (by with_reducible assumption) ?_ ?_) | (with_reducible refine Below.viaD (by with_reducible assumption) ?_ ?_) | (with_reducible exact Below.size (by with_reducible assumption)) | go_size | (with_reducible refine Nat.le_trans ?_ (Below.size (by with_reducible assumption))) | (with_reducible refine Nat.le_trans ?_ (sizeAlloc _ _)) | (with_reducible refine Nat.le_trans ?_ (sizeSet _ _ _)) | (with_reducible refine Nat.le_trans ?_ (sizeDrew _))))⟩
  case round =>
    obtain ⟨k, rfl, hk, hb⟩ := hrel
    by_cases hlt : k < n
    case pos =>
      obtain ⟨b1, off1, z, rfl, hb1, HZ, hc1⟩ := HS.out.int hlt
      obtain ⟨b2, off2, z', rfl, hb2, HZ', hc2⟩ := HS'.out.int hlt
      obtain rfl : z = z' := HZ.out.symm.trans HZ'.out
      have hd1 := (hb.cell hb1).trans hc1
      have hd2 := (hb.cell hb2).trans hc2
      have hne : (z != z) = false := by simp
      clear hc1 hc2
      go_wp2
      first | (refine wp_region_quiet_lit (by kernel_rfl) (by kernel_rfl) ?_; refine WQ.of ?_; (repeat (refine WQ.step (fun K hK => ?_); go_simp; first | (refine hK _ ?_; clear hK K) | (apply Exists.intro; refine ⟨fun _ => ?_, hK _ ?_⟩; (fail); clear hK K))); refine WQ.nil ?_; intro _ hw'; obtain ⟨nq, hw''⟩ := hw'; subst hw'') | go_quiet (fail)
      go_wp2
      go_roundw
      case rel => exact ⟨k + 1, by first | rfl | go_num | (congr 1; omega), by omega, by (repeat' (first | (with_reducible exact Below.refl _ _) | (with_reducible assumption) | (with_reducible refine Below.alloc ?_ ?_ _) | (with_reducible refine Below.drew ?_) | (with_reducible refine belowDrewN ?_ _) | (with_reducible refine Below.setCell ?_ ?_ _) | (with_reducible refine Below.via (by with_reducible assumption) ?_ ?_) | (with_reducible refine Below.viaD (by with_reducible assumption) ?_ ?_) | (with_reducible exact Below.size (by with_reducible assumption)) | go_size | (with_reducible refine Nat.le_trans ?_ (Below.size (by with_reducible assumption))) | (with_reducible refine Nat.le_trans ?_ (sizeAlloc _ _)) | (with_reducible refine Nat.le_trans ?_ (sizeSet _ _ _)) | (with_reducible refine Nat.le_trans ?_ (sizeDrew _))))⟩
      case measure => first | (simp [intOf]; done) | (simp [intOf]; omega)
    case neg =>
      obtain rfl : k = n := by omega
      go_wp2
      go_ret
      exact ⟨rfl, hb⟩
set_option maxHeartbeats 1000000 in
theorem PutNumber_any (n : Int) (hn : isItemR n = true) (w : World) : Calls Try.prog 17 #[.int .i64 n] w fun e w' => e = .returned (.tuple #[.string ⟨(putL n).toArray⟩, .int .i64 0]) ∧ Below w.heap.size w w' := by
  have HN := Lib.hid hn
  clear hn
  go_enter Try.func17, Try.ntmps17
  go_wp2_with (go_at_call 29; refine (isItem_any n _).mono ?_; rintro e w_ ⟨rfl, rfl⟩; rw [HN.out])
  refine (put_any n HN.out _).mono ?_
  rintro e w1 ⟨v, q, rfl, ho, hq, hb1⟩
  have hcv := row_string ho 28 5 9 Try.underlying28 Try.underlying5 Try.underlying9
  clear ho
  go_wp2
  go_ret2
  exact ⟨rfl, hb1⟩
end Go.Proofs.Ytbaimfmepidjcaa
