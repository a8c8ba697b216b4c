/- Numbers as bytes and checksums, by both functions. Conditions: numbers in range. -/
import Derived.Test.YtbaimfmepidjcaaPackP
import Derived.Test.YtbaimfmepidjcaaApp
import Derived.Laws.BytesArg
import Derived.Laws.IdiomStrings
namespace Go.Proofs.Ytbaimfmepidjcaa
set_option linter.unusedSimpArgs false
set_option linter.unusedVariables false
open Go.RowKit Go.WideShapes

/-- Bytes as cells. -/
def bV (l : List UInt8) : List Value := l.map fun b => .int .u8 (b.toNat : Int)
theorem bV_app (a b : List UInt8) : bV (a ++ b) = bV a ++ bV b := List.map_append
theorem bV_len (a : List UInt8) : (bV a).length = a.length := List.length_map _
theorem bV_one (l : List UInt8) : ∀ u ∈ bV l, u.oneCell' = true := by
  intro u hu
  rw [bV, List.mem_map] at hu
  obtain ⟨b, _, rfl⟩ := hu
  rfl
theorem info_u8 : (Try.prog.info? 5).map (fun i => (i.zero, i.size, i.bytes)) = some (some (.int .u8 0), 1, 1) := by kernel_rfl
/-- A row of bytes of the call's own is the result. -/
def RowPost (l : List UInt8) (w : World) (e : Ending) (w' : World) : Prop := ∃ v q, e = .returned v ∧ w'.ownsRow w.heap.size 5 1 v q (bV l) ∧ q = l.length ∧ Below w.heap.size w w'
/-- A row of bytes becomes a string. -/
theorem row_string {w : World} {base : Nat} {v : Value} {q : Nat} {l : List UInt8} (h : w.ownsRow base 5 1 v q (bV l)) (src e dst : TypeId) (hs : Try.prog.underlying src = some (.slice e)) (he : Try.prog.underlying e = some (.int .u8)) (hd : Try.prog.underlying dst = some .string) :
    (convert src dst v).run Try.prog w = .ok (.string ⟨l.toArray⟩) w := by
  have hq : q = l.length := by have := h.1; rw [bV_len] at this; omega
  subst hq
  obtain ⟨A, g, cap, rfl, _, _, _, ho⟩ := own_of_row h
  rcases Nat.eq_zero_or_pos l.length with h0 | h0
  · have hl : l = [] := List.eq_nil_of_length_eq_zero h0
    subst hl
    cases A with
    | none => exact run_convert_bytes_nil w src e hs he _ _ dst hd
    | some a => exact run_convert_bytes_back w src dst e a cap [] hs he hd (fun j hj => by simp at hj)
  · obtain ⟨rfl, rest, hb⟩ := ho.blk h0
    refine run_convert_bytes_back w src dst e _ cap l hs he hd (fun j hj => ?_)
    rw [Go.WideShapes.add_plain, Nat.zero_add, hb.cell, List.getElem?_toArray, List.getElem?_append_left (by rw [bV_len]; exact hj), bV, List.getElem?_map, List.getElem?_eq_getElem hj]
    rfl
theorem isItem_any (n : Int) (w : World) : Calls Try.prog 29 #[.int .i64 n] w fun e w' => e = .returned (.bool (isItemR n)) ∧ w = w' := by
  go_enter Try.func29, Try.ntmps29
  go_wp2_with (go_at_call 30; refine (between_any _ _ _ _).mono ?_; rintro e w_ ⟨rfl, rfl⟩)
  go_ret
  exact ⟨rfl, rfl⟩
theorem l14Item_any (n : Int) (w : World) : Calls Try.prog 36 #[.int .i64 n] w fun e w' => e = .returned (.bool (isItemR n)) ∧ w = w' := by
  go_enter Try.func36, Try.ntmps36
  go_wp2_with (go_at_call 42; refine (l00In_any _ _ _ _).mono ?_; rintro e w_ ⟨rfl, rfl⟩)
  go_ret
  exact ⟨rfl, rfl⟩
theorem put_step {l : List UInt8} {m : Nat} {n : Int} (h : l ++ putU m = putL n) (hm : 128 ≤ m) : (l ++ [UInt8.ofNat (m % 128 + 128)]) ++ putU (m / 128) = putL n := by
  rw [← h, putU_big hm, List.append_assoc]; rfl
theorem put_end {l : List UInt8} {m : Nat} {n : Int} (h : l ++ putU m = putL n) (hm : m < 128) : l ++ [UInt8.ofNat m] = putL n := by
  rw [← h, putU_small hm]
theorem bV_snoc (l : List UInt8) (m : Nat) (h : m < 256) : bV (l ++ [UInt8.ofNat m]) = bV l ++ [.int .u8 (m : Int)] := by
  rw [bV_app]
  congr 1
  simp only [bV, List.map_cons, List.map_nil]
  rw [UInt8.toNat_ofNat', Nat.mod_eq_of_lt h]
theorem zig_neg {n : Int} (h : n < 0) : ((zig n : Nat) : Int) = -2 * n - 1 := by rw [zig, if_pos h]; omega
theorem zig_pos {n : Int} (h : ¬ n < 0) : ((zig n : Nat) : Int) = 2 * n := by rw [zig, if_neg h]; omega
set_option maxHeartbeats 2000000 in
theorem put_any (n : Int) (hn : isItemR n = true) (w : World) : Calls Try.prog 31 #[.int .i64 n] w (RowPost (putL n) w) := by
  obtain ⟨i0, ti, tz0, tz1, tz2⟩ := info_parts info_u8
  have hz := zig_le hn
  have hp := (put_item_len hn).2
  simp only [isItemR, decide_eq_true_eq] at hn
  obtain ⟨n1, n2⟩ := hn
  by_cases h0 : n < 0
  all_goals
    have HZ : Hid (((zig n : Nat) : Int) = if n < 0 then -2 * n - 1 else 2 * n) := by unfold Hid; first | rw [if_pos h0]; exact zig_neg h0 | rw [if_neg h0]; exact zig_pos h0
    go_enter Try.func31, Try.ntmps31
    go_wp2
    go_loopw [3, 4] (fun u v wr => ∃ (m : Nat) (l : List UInt8), u = .int .i64 m ∧ Hid (l ++ putU m = putL n) ∧ m ≤ 2000000 ∧ l.length ≤ 3 ∧ wr.ownsRow w.heap.size 5 1 v l.length (bV l) ∧ Below w.heap.size w wr) (fun u _ _ => (intOf u).toNat)
    case atStart => exact ⟨zig n, [], by rw [HZ.out]; first | rw [if_pos (by omega)] | rw [if_neg (by omega)], rfl, hz, by simp, World.ownsRow_made _ _ 0 (Nat.le_refl _) (Nat.zero_le _) rfl, by (repeat' (first | (with_reducible exact Below.refl _ _) | (with_reducible assumption) | (with_reducible refine Below.alloc ?_ ?_ _) | (with_reducible refine Below.drew ?_) | (with_reducible refine belowDrewN ?_ _) | (with_reducible refine Below.setCell ?_ ?_ _) | (with_reducible refine Below.via (by with_reducible assumption) ?_ ?_) | (with_reducible refine Below.viaD (by with_reducible assumption) ?_ ?_) | (with_reducible exact Below.size (by with_reducible assumption)) | go_size | (with_reducible refine Nat.le_trans ?_ (Below.size (by with_reducible assumption))) | (with_reducible refine Nat.le_trans ?_ (sizeAlloc _ _)) | (with_reducible refine Nat.le_trans ?_ (sizeSet _ _ _)) | (with_reducible refine Nat.le_trans ?_ (sizeDrew _))))⟩
    case round =>
      obtain ⟨m, l, rfl, hl, hm, hll, hown, hbl⟩ := hrel
      have HW := Lib.hid hown
      have hbs := hbl.size
      clear hown
      by_cases hgt : 127 < m
      · have HP : Hid ((l ++ [UInt8.ofNat (m % 128 + 128)]) ++ putU (m / 128) = putL n) := put_step hl.out (by omega)
        have HL : Hid ((l ++ [UInt8.ofNat (m % 128 + 128)]).length ≤ 3) := by
          have h1 := congrArg List.length HP.out
          rw [List.length_append] at h1
          unfold Hid
          omega
        have hl4 : l.length ≤ 2 := by have := HL.out; rw [List.length_append, List.length_singleton] at this; omega
        go_wp2_with (at_builtin; refine wpList_append_sl _ rfl _ _ 28 rfl w.heap.size 5 i0 _ 1 1 Try.underlying28 ti tz0 tz1 tz2 rfl (by decide) _ l.length (bV l) rfl (HW.out.alloc _) (wr.heap.size + 1) _ 1 1 [.int .u8 ((m : Int) % 128 + 128)] rfl (Sl.built (by simp) (by simp) rfl) ?c1 ?c2 ?c3 ?c4 ?_)
        case c1 => intro u hu; simp at hu; subst hu; rfl
        case c2 => unfold maxLen; omega
        case c3 => omega
        case c4 => simp; omega
        intro v' w3 hown3 hg3 _
        have hbn : Below w.heap.size w w3 := below_app (by (repeat' (first | (with_reducible exact Below.refl _ _) | (with_reducible assumption) | (with_reducible refine Below.alloc ?_ ?_ _) | (with_reducible refine Below.drew ?_) | (with_reducible refine belowDrewN ?_ _) | (with_reducible refine Below.setCell ?_ ?_ _) | (with_reducible refine Below.via (by with_reducible assumption) ?_ ?_) | (with_reducible refine Below.viaD (by with_reducible assumption) ?_ ?_) | (with_reducible exact Below.size (by with_reducible assumption)) | go_size | (with_reducible refine Nat.le_trans ?_ (Below.size (by with_reducible assumption))) | (with_reducible refine Nat.le_trans ?_ (sizeAlloc _ _)) | (with_reducible refine Nat.le_trans ?_ (sizeSet _ _ _)) | (with_reducible refine Nat.le_trans ?_ (sizeDrew _))))) (HW.out.alloc _) hg3 (Nat.le_refl _) (by simp; omega)
        have HW3 : Hid (w3.ownsRow w.heap.size 5 1 v' (l ++ [UInt8.ofNat (m % 128 + 128)]).length (bV (l ++ [UInt8.ofNat (m % 128 + 128)]))) := by
          unfold Hid
          rw [bV_snoc _ _ (by omega), List.length_append, List.length_singleton]
          exact hown3
        clear hown3 hg3
        go_wp2_with fail
        go_roundw
        case rel => exact ⟨m / 128, l ++ [UInt8.ofNat (m % 128 + 128)], by go_num, HP, by omega, HL.out, HW3.out, hbn⟩
        case measure => simp [intOf]; omega
      · have HP : Hid (l ++ [UInt8.ofNat m] = putL n) := put_end hl.out (by omega)
        have hl4 : l.length ≤ 2 := by
          have h1 := congrArg List.length HP.out
          rw [List.length_append, List.length_singleton] at h1
          omega
        have hm2 : (m : Int) ≤ 127 := by omega
        go_wp2_with (at_builtin; refine wpList_append_sl _ rfl _ _ 28 rfl w.heap.size 5 i0 _ 1 1 Try.underlying28 ti tz0 tz1 tz2 rfl (by decide) _ l.length (bV l) rfl (HW.out.alloc _) (wr.heap.size + 1) _ 1 1 [.int .u8 (m : Int)] rfl (Sl.built (by simp) (by simp) rfl) ?c1 ?c2 ?c3 ?c4 ?_)
        case c1 => intro u hu; simp at hu; subst hu; rfl
        case c2 => unfold maxLen; omega
        case c3 => omega
        case c4 => simp; omega
        intro v' w3 hown3 hg3 _
        have hbn : Below w.heap.size w w3 := below_app (by (repeat' (first | (with_reducible exact Below.refl _ _) | (with_reducible assumption) | (with_reducible refine Below.alloc ?_ ?_ _) | (with_reducible refine Below.drew ?_) | (with_reducible refine belowDrewN ?_ _) | (with_reducible refine Below.setCell ?_ ?_ _) | (with_reducible refine Below.via (by with_reducible assumption) ?_ ?_) | (with_reducible refine Below.viaD (by with_reducible assumption) ?_ ?_) | (with_reducible exact Below.size (by with_reducible assumption)) | go_size | (with_reducible refine Nat.le_trans ?_ (Below.size (by with_reducible assumption))) | (with_reducible refine Nat.le_trans ?_ (sizeAlloc _ _)) | (with_reducible refine Nat.le_trans ?_ (sizeSet _ _ _)) | (with_reducible refine Nat.le_trans ?_ (sizeDrew _))))) (HW.out.alloc _) hg3 (Nat.le_refl _) (by simp; omega)
        have HW3 : Hid (w3.ownsRow w.heap.size 5 1 v' (l.length + 1) (bV (putL n))) := by
          unfold Hid
          rw [← HP.out, bV_snoc _ _ (by omega)]
          exact hown3
        clear hown3 hg3
        go_wp2_with fail
        go_ret
        exact ⟨v', _, rfl, HW3.out, by rw [← HP.out, List.length_append, List.length_singleton], hbn⟩
set_option maxRecDepth 100000 in
set_option maxHeartbeats 2000000 in
theorem l14Put_any (n : Int) (hn : isItemR n = true) (w : World) : Calls Try.prog 38 #[.int .i64 n] w fun e w' => e = .returned (.string ⟨(putL n).toArray⟩) ∧ Below w.heap.size w w' := by
  obtain ⟨i0, ti, tz0, tz1, tz2⟩ := info_parts info_u8
  have hz := zig_le hn
  have hp := (put_item_len hn).2
  simp only [isItemR, decide_eq_true_eq] at hn
  obtain ⟨n1, n2⟩ := hn
  by_cases h0 : n < 0
  all_goals
    have HZ : Hid (((zig n : Nat) : Int) = if n < 0 then -2 * n - 1 else 2 * n) := by unfold Hid; first | rw [if_pos h0]; exact zig_neg h0 | rw [if_neg h0]; exact zig_pos h0
    go_enter Try.func38, Try.ntmps38
    go_wp2
    go_loopw [3, 4] (fun u v wr => ∃ (m : Nat) (l : List UInt8), u = .int .i64 m ∧ Hid (l ++ putU m = putL n) ∧ m ≤ 2000000 ∧ l.length ≤ 3 ∧ wr.ownsRow w.heap.size 5 1 v l.length (bV l) ∧ Below w.heap.size w wr) (fun u _ _ => (intOf u).toNat)
    case atStart => exact ⟨zig n, [], by rw [HZ.out]; first | rw [if_pos (by omega)] | rw [if_neg (by omega)], rfl, hz, by simp, World.ownsRow_made _ _ 0 (Nat.le_refl _) (Nat.zero_le _) rfl, by (repeat' (first | (with_reducible exact Below.refl _ _) | (with_reducible assumption) | (with_reducible refine Below.alloc ?_ ?_ _) | (with_reducible refine Below.drew ?_) | (with_reducible refine belowDrewN ?_ _) | (with_reducible refine Below.setCell ?_ ?_ _) | (with_reducible refine Below.via (by with_reducible assumption) ?_ ?_) | (with_reducible refine Below.viaD (by with_reducible assumption) ?_ ?_) | (with_reducible exact Below.size (by with_reducible assumption)) | go_size | (with_reducible refine Nat.le_trans ?_ (Below.size (by with_reducible assumption))) | (with_reducible refine Nat.le_trans ?_ (sizeAlloc _ _)) | (with_reducible refine Nat.le_trans ?_ (sizeSet _ _ _)) | (with_reducible refine Nat.le_trans ?_ (sizeDrew _))))⟩
    case round =>
      obtain ⟨m, l, rfl, hl, hm, hll, hown, hbl⟩ := hrel
      have HW := Lib.hid hown
      have hbs := hbl.size
      clear hown
      by_cases hgt : 127 < m
      · have HP : Hid ((l ++ [UInt8.ofNat (m % 128 + 128)]) ++ putU (m / 128) = putL n) := put_step hl.out (by omega)
        have HL : Hid ((l ++ [UInt8.ofNat (m % 128 + 128)]).length ≤ 3) := by
          have h1 := congrArg List.length HP.out
          rw [List.length_append] at h1
          unfold Hid
          omega
        have hl4 : l.length ≤ 2 := by have := HL.out; rw [List.length_append, List.length_singleton] at this; omega
        go_wp2_with (at_builtin; refine wpList_append_sl _ rfl _ _ 28 rfl w.heap.size 5 i0 _ 1 1 Try.underlying28 ti tz0 tz1 tz2 rfl (by decide) _ l.length (bV l) rfl (HW.out.alloc _) (wr.heap.size + 1) _ 1 1 [.int .u8 ((m : Int) % 128 + 128)] rfl (Sl.built (by simp) (by simp) rfl) ?c1 ?c2 ?c3 ?c4 ?_)
        case c1 => intro u hu; simp at hu; subst hu; rfl
        case c2 => unfold maxLen; omega
        case c3 => omega
        case c4 => simp; omega
        intro v' w3 hown3 hg3 _
        have hbn : Below w.heap.size w w3 := below_app (by (repeat' (first | (with_reducible exact Below.refl _ _) | (with_reducible assumption) | (with_reducible refine Below.alloc ?_ ?_ _) | (with_reducible refine Below.drew ?_) | (with_reducible refine belowDrewN ?_ _) | (with_reducible refine Below.setCell ?_ ?_ _) | (with_reducible refine Below.via (by with_reducible assumption) ?_ ?_) | (with_reducible refine Below.viaD (by with_reducible assumption) ?_ ?_) | (with_reducible exact Below.size (by with_reducible assumption)) | go_size | (with_reducible refine Nat.le_trans ?_ (Below.size (by with_reducible assumption))) | (with_reducible refine Nat.le_trans ?_ (sizeAlloc _ _)) | (with_reducible refine Nat.le_trans ?_ (sizeSet _ _ _)) | (with_reducible refine Nat.le_trans ?_ (sizeDrew _))))) (HW.out.alloc _) hg3 (Nat.le_refl _) (by simp; omega)
        have HW3 : Hid (w3.ownsRow w.heap.size 5 1 v' (l ++ [UInt8.ofNat (m % 128 + 128)]).length (bV (l ++ [UInt8.ofNat (m % 128 + 128)]))) := by
          unfold Hid
          rw [bV_snoc _ _ (by omega), List.length_append, List.length_singleton]
          exact hown3
        clear hown3 hg3
        go_wp2_with fail
        go_roundw
        case rel => exact ⟨m / 128, l ++ [UInt8.ofNat (m % 128 + 128)], by go_num, HP, by omega, HL.out, HW3.out, hbn⟩
        case measure => simp [intOf]; omega
      · have HP : Hid (l ++ [UInt8.ofNat m] = putL n) := put_end hl.out (by omega)
        have hl4 : l.length ≤ 2 := by
          have h1 := congrArg List.length HP.out
          rw [List.length_append, List.length_singleton] at h1
          omega
        have hm2 : (m : Int) ≤ 127 := by omega
        go_wp2_with (at_builtin; refine wpList_append_sl _ rfl _ _ 28 rfl w.heap.size 5 i0 _ 1 1 Try.underlying28 ti tz0 tz1 tz2 rfl (by decide) _ l.length (bV l) rfl (HW.out.alloc _) (wr.heap.size + 1) _ 1 1 [.int .u8 (m : Int)] rfl (Sl.built (by simp) (by simp) rfl) ?c1 ?c2 ?c3 ?c4 ?_)
        case c1 => intro u hu; simp at hu; subst hu; rfl
        case c2 => unfold maxLen; omega
        case c3 => omega
        case c4 => simp; omega
        intro v' w3 hown3 hg3 _
        have hbn : Below w.heap.size w w3 := below_app (by (repeat' (first | (with_reducible exact Below.refl _ _) | (with_reducible assumption) | (with_reducible refine Below.alloc ?_ ?_ _) | (with_reducible refine Below.drew ?_) | (with_reducible refine belowDrewN ?_ _) | (with_reducible refine Below.setCell ?_ ?_ _) | (with_reducible refine Below.via (by with_reducible assumption) ?_ ?_) | (with_reducible refine Below.viaD (by with_reducible assumption) ?_ ?_) | (with_reducible exact Below.size (by with_reducible assumption)) | go_size | (with_reducible refine Nat.le_trans ?_ (Below.size (by with_reducible assumption))) | (with_reducible refine Nat.le_trans ?_ (sizeAlloc _ _)) | (with_reducible refine Nat.le_trans ?_ (sizeSet _ _ _)) | (with_reducible refine Nat.le_trans ?_ (sizeDrew _))))) (HW.out.alloc _) hg3 (Nat.le_refl _) (by simp; omega)
        have HW3 : Hid (w3.ownsRow w.heap.size 5 1 v' (l.length + 1) (bV (putL n))) := by
          unfold Hid
          rw [← HP.out, bV_snoc _ _ (by omega)]
          exact hown3
        clear hown3 hg3
        have hcv := row_string HW3.out 28 5 9 Try.underlying28 Try.underlying5 Try.underlying9
        go_wp2_with fail
        go_ret
        exact ⟨rfl, hbn⟩
theorem take_snoc (s : ByteArray) (k : Nat) (h : k < s.size) : s.data.toList.take (k + 1) = s.data.toList.take k ++ [s[k]] := by
  rw [List.take_succ_eq_append_getElem (by simpa using h)]; rfl
set_option maxHeartbeats 1000000 in
theorem ChecksumOf_any (s : ByteArray) (w : World) (hs : s.size ≤ 1073741824) : Calls Try.prog 32 #[.string s] w fun e w' => e = .returned (.int .i64 (sumL s.data.toList : Nat)) ∧ w = w' := by
  have HLT := Lib.hid sumL_lt
  go_enter Try.func32, Try.ntmps32
  go_wp2
  go_loop [3, 7] (fun u i => ∃ k : Nat, k ≤ s.size ∧ i = .int .i64 k ∧ u = .int .i64 (sumL (s.data.toList.take k) : Nat)) (fun _ i => s.size - (intOf i).toNat)
  case atStart => exact ⟨0, Nat.zero_le _, rfl, rfl⟩
  case round =>
    obtain ⟨k, hk, rfl, rfl⟩ := hrel
    have hlt0 := HLT.out (s.data.toList.take k)
    by_cases hlt : k < s.size
    · have HS : Hid (sumL (s.data.toList.take (k + 1)) = (31 * sumL (s.data.toList.take k) + s[k].toNat) % 65521) := by unfold Hid; rw [take_snoc s k hlt, sumL_snoc]
      have hb := s[k].toNat_lt
      obtain ⟨q, hq⟩ : ∃ q, sumL (s.data.toList.take k) = q := ⟨_, rfl⟩
      rw [hq] at hlt0 HS ⊢
      clear hq
      go_wp2
      go_round
      case rel => exact ⟨k + 1, by omega, by go_num, by rw [HS.out]; first | rfl | go_num | (congr 1; omega)⟩
      case measure => first | (simp [intOf]; done) | (simp [intOf]; omega)
    · obtain rfl : k = s.size := by omega
      go_wp2
      go_ret
      exact ⟨by rw [List.take_of_length_le (by simp)]; rfl, rfl⟩
set_option maxHeartbeats 1000000 in
theorem l14Sum_any (s : ByteArray) (w : World) (hs : s.size ≤ 1073741824) : Calls Try.prog 34 #[.string s] w fun e w' => e = .returned (.int .i64 (sumL s.data.toList : Nat)) ∧ w = w' := by
  have HLT := Lib.hid sumL_lt
  go_enter Try.func34, Try.ntmps34
  go_wp2
  go_loop [3, 4] (fun u i => ∃ k : Nat, k ≤ s.size ∧ i = .int .i64 k ∧ u = .int .i64 (sumL (s.data.toList.take k) : Nat)) (fun _ i => s.size - (intOf i).toNat)
  case atStart => exact ⟨0, Nat.zero_le _, rfl, rfl⟩
  case round =>
    obtain ⟨k, hk, rfl, rfl⟩ := hrel
    have hlt0 := HLT.out (s.data.toList.take k)
    by_cases hlt : k < s.size
    · have HS : Hid (sumL (s.data.toList.take (k + 1)) = (31 * sumL (s.data.toList.take k) + s[k].toNat) % 65521) := by unfold Hid; rw [take_snoc s k hlt, sumL_snoc]
      have hb := s[k].toNat_lt
      obtain ⟨q, hq⟩ : ∃ q, sumL (s.data.toList.take k) = q := ⟨_, rfl⟩
      rw [hq] at hlt0 HS ⊢
      clear hq
      go_wp2
      go_round
      case rel => exact ⟨k + 1, by omega, by go_num, by rw [HS.out]; first | rfl | go_num | (congr 1; omega)⟩
      case measure => first | (simp [intOf]; done) | (simp [intOf]; omega)
    · obtain rfl : k = s.size := by omega
      go_wp2
      go_ret
      exact ⟨by rw [List.take_of_length_le (by simp)]; rfl, rfl⟩
end Go.Proofs.Ytbaimfmepidjcaa
