/- Texts cut at bytes: cut, parts, l01Split. Conditions: at most 2^20 bytes. -/
import Derived.Test.YteeplmnjipddaaaDoorG08
import Derived.Test.YteeplmnjipddaaaDoorG09
import Derived.Test.YteeplmnjipddaaaDoorG07
/- FnRatedTexts: the draws. Conditions: at most 2^20 bytes. -/
namespace Go.Proofs.YteeplmnjipddaaaDoor
set_option linter.unusedSimpArgs false
set_option linter.unusedVariables false
open Go.RowKit Go.WideShapes Go.ChangeShapes

set_option maxHeartbeats 2000000 in
theorem f6ints_sameR (A A' : Option Addr) (n c c' : Nat) (zs : List Int) (w : World) (hs : Sl w w.heap.size 1 A n (zs.map (Value.int .i64))) (hs' : Sl w w.heap.size 1 A' n (zs.map (Value.int .i64))) (hn : n ≤ 9223372036854775807) :
    Calls Tryd.prog 14 #[.slice A n c, .slice A' n c'] w fun e w' => e = .returned (.bool true) ∧ Below w.heap.size w w' := by
  go_enter Tryd.func14, Tryd.ntmps14
  go_wp2_with fail
  go_loopw [5] (fun i wr => ∃ k : Nat, k ≤ n ∧ i = .int .i64 k ∧ Below w.heap.size w wr) (fun i _ => n - (intOf i).toNat)
  case atStart => exact ⟨0, Nat.zero_le _, rfl, Below.refl _ _⟩
  case round =>
    obtain ⟨k, hk, rfl, hbl⟩ := hrel
    by_cases hlt : k < n
    · obtain ⟨b, off, z, rfl, hb, HZ, hc⟩ := (hs.later hbl).int hlt
      obtain ⟨b', off', z', rfl, hb', HZ', hc'⟩ := (hs'.later hbl).int hlt
      have hzz : z' = z := by rw [← HZ.out, ← HZ'.out]
      subst hzz
      have HB := Lib.hid hbl
      clear hbl
      go_wp2_with fail
      first | (refine wp_region_quiet_lit (by kernel_rfl) (by kernel_rfl) ?_; refine WQ.of ?_; (repeat (refine WQ.step (fun K hK => ?_); go_simp; first | (refine hK _ ?_; clear hK K) | (apply Exists.intro; refine ⟨fun _ => ?_, hK _ ?_⟩; (fail); clear hK K))); refine WQ.nil ?_; intro _ hw'; obtain ⟨nq, hw''⟩ := hw'; subst hw'') | go_quiet (fail)
      go_wp2_with fail
      go_roundw
      case rel => exact ⟨k + 1, by omega, by go_num, belowDrewN HB.out _⟩
      case measure => first | (simp [intOf]; done) | (simp [intOf]; omega)
    · obtain rfl : k = n := by omega
      go_wp2_with fail
      go_ret
      exact ⟨rfl, hbl⟩
def RtD (w : World) (e : Ending) (w' : World) : Prop := ∃ r g : Int, e = .returned (.agg #[.int .i64 r, .int .i64 g]) ∧ Below w.heap.size w w'
set_option maxHeartbeats 2000000 in
theorem DrawRatedText_any (A : Option Addr) (n c : Nat) (cs : List Int) (w : World) (hs : Sl w w.heap.size 1 A n (cs.map (Value.int .u8))) (hc : ∀ z ∈ cs, 0 ≤ z ∧ z ≤ 255) (hn : n ≤ 1048576) :
    Calls Tryd.prog 5 #[.slice A n c] w (RtD w) := by
  have K0 := Lib.hid (Blk.new w 25 #[.int .i64 0, .int .i64 0])
  have BA := Lib.hid (Below.alloc (Below.refl w.heap.size w) (Nat.le_refl _) (.cells #[.int .i64 0, .int .i64 0] 25))
  have HS := Lib.hid (hs.later BA.out)
  have HC := Lib.hid hc
  have hz0 := BA.out.size
  clear hs hc
  go_enter Tryd.func5, Tryd.ntmps5
  go_wp2_with fail
  refine (l00From_any A n c cs _ HS.out HC.out).mono ?_
  rintro e w1 ⟨b, rfl, hb, S1, hb1⟩
  have HS1 := Lib.hid S1
  have HB1 := Lib.hid (Below.via hb1 BA.out hz0)
  have K1 := Lib.hid (K0.out.later hb1)
  have z1 := HB1.out.size
  have hbk : w.heap.size < b := by have : (w.alloc (.cells #[.int .i64 0, .int .i64 0] 25)).heap.size = w.heap.size + 1 := by simp
                                   omega
  clear S1 hb1
  go_wp2_with fail
  refine (l25Draw_any b A n c 0 cs _ HS1.out hn (by omega)).mono ?_
  rintro e w2 ⟨r, g, rfl, hr0, hr1, hg0, hg1, S2, g2⟩
  have HB2 := Lib.hid (below_src HB1.out g2 (by omega) z1)
  have K2 := Lib.hid (blk_over K1.out g2 (by intro e; injection e with e; omega))
  have z2 := HB2.out.size
  clear S2 g2
  have k0 := K2.out.cell 0
  have k1 := K2.out.cell 1
  have f0 := K2.out.free 0
  have f1 := K2.out.free 1
  go_wp2_with fail
  (try simp only [Exit.inBlock, Exit.then])
  refine bodyPost_ret (by simp [results, Tryd.results5, go_sem, k0, k1, f0, f1]; try rfl) rfl ?_
  exact ⟨r, g, rfl, (HB2.out.setCell (Nat.le_refl _) _).setCell (Nat.le_refl _) _⟩
def RrD (w : World) (e : Ending) (w' : World) : Prop := ∃ x : ByteArray, e = .returned (.string x) ∧ x.size ≤ 1000 ∧ Below w.heap.size w w'
set_option maxHeartbeats 2000000 in
theorem DrawReadRated_any (A : Option Addr) (n c : Nat) (cs : List Int) (w : World) (hs : Sl w w.heap.size 1 A n (cs.map (Value.int .u8))) (hc : ∀ z ∈ cs, 0 ≤ z ∧ z ≤ 255) (hn : n ≤ 1048576) :
    Calls Tryd.prog 8 #[.slice A n c] w (RrD w) := by
  have HS := Lib.hid hs
  have HC := Lib.hid hc
  clear hs hc
  go_enter Tryd.func8, Tryd.ntmps8
  go_wp2_with fail
  refine (l00From_any A n c cs _ HS.out HC.out).mono ?_
  rintro e w1 ⟨b, rfl, hb, S1, hb1⟩
  have HS1 := Lib.hid S1
  have HB1 := Lib.hid hb1
  have z1 := HB1.out.size
  clear S1 hb1
  go_wp2_with fail
  refine (l25Draw_any b A n c 0 cs _ HS1.out hn (by omega)).mono ?_
  rintro e w2 ⟨r, g, rfl, hr0, hr1, hg0, hg1, S2, g2⟩
  have HS2 := Lib.hid S2
  have HB2 := Lib.hid (below_src HB1.out g2 (by omega) z1)
  have z2 := HB2.out.size
  obtain ⟨t, ht⟩ : ∃ t, ratedT r g = t := ⟨_, rfl⟩
  have htz : t.size ≤ 100 := by
    rw [← ht, ratedT, ByteArray.size_append, ByteArray.size_append]
    have h1 := decS_size (n := r) (by omega) (by omega)
    have h2 := decS_size (n := g) (by omega) (by omega)
    show (decS r).size + 1 + (decS g).size ≤ 100
    omega
  have HT := Lib.hid ht
  clear S2 g2 ht
  go_wp2_with fail
  refine (l25Text_any r g (by omega) (by omega) (by omega) (by omega) t HT.out _).mono ?_
  rintro e w3 ⟨rfl, hb3⟩
  have HS3 := Lib.hid (HS2.out.later hb3)
  have HB3 := Lib.hid (Below.via hb3 HB2.out z2)
  have z3 := HB3.out.size
  clear hb3
  go_wp2_with fail
  refine (l01Spoil_any b A n c (0 + 8) cs t _ HS3.out hn (by omega) (by omega)).mono ?_
  rintro e w4 ⟨x, rfl, hx, S4, g4⟩
  have HB4 := Lib.hid (below_src HB3.out g4 (by omega) z3)
  clear S4 g4
  go_wp2_with fail
  go_ret
  exact ⟨x, rfl, by omega, HB4.out⟩
def RoD (t1 : TypeId) (w : World) (e : Ending) (w' : World) : Prop := ∃ (v1 : Value) (j1 : Nat) (zs : List Int), e = .returned v1 ∧ j1 ≤ 101 ∧ w'.ownsRow w.heap.size t1 2 v1 j1 (zs.map (Value.int .i64)) ∧ Below w.heap.size w w'
set_option maxHeartbeats 2000000 in
theorem DrawRatingOrder_any (A : Option Addr) (n c : Nat) (cs : List Int) (w : World) (hs : Sl w w.heap.size 1 A n (cs.map (Value.int .u8))) (hc : ∀ z ∈ cs, 0 ≤ z ∧ z ≤ 255) (hn : n ≤ 1048576) :
    Calls Tryd.prog 10 #[.slice A n c] w (RoD 25 w) := by
  have HS := Lib.hid hs
  have HC := Lib.hid hc
  clear hs hc
  go_enter Tryd.func10, Tryd.ntmps10
  go_wp2_with fail
  refine (l00From_any A n c cs w HS.out HC.out).mono ?_
  rintro e w1 ⟨b, rfl, hb, S1, hb1⟩
  have HS1 := Lib.hid S1
  have HB1 := Lib.hid hb1
  have z1 := hb1.size
  clear S1 hb1
  go_wp2_with fail
  refine (l25List_any b A n c 0 cs _ HS1.out hn (by omega)).mono ?_
  rintro e w2 ⟨lv, jl, zs, rfl, hjl, hm⟩
  have HB2 := Lib.hid (below_src HB1.out hm.gr hb z1)
  have HR := Lib.hid (own_baseM hm.row z1)
  clear hm
  go_wp2_with fail
  go_ret
  exact ⟨lv, jl, zs, rfl, hjl, HR.out, HB2.out⟩
end Go.Proofs.YteeplmnjipddaaaDoor
/- Texts cut at bytes: cut, parts, l01Split. Conditions: at most 2^20 bytes. -/
namespace Go.Proofs.YteeplmnjipddaaaDoor
set_option linter.unusedSimpArgs false
set_option linter.unusedVariables false
open Go.RowKit Go.WideShapes

def splitL (c : UInt8) : List UInt8 → List (List UInt8)
  | [] => [[]]
  | x :: r => if x = c then [] :: splitL c r else match splitL c r with
    | [] => [[x]]
    | h :: t => (x :: h) :: t
theorem splitL_hit {c : UInt8} {a : List UInt8} (r : List UInt8) (h : ∀ x ∈ a, x ≠ c) : splitL c (a ++ c :: r) = a :: splitL c r := by
  induction a with
  | nil => rw [List.nil_append, splitL, if_pos rfl]
  | cons x a ih =>
    rw [List.cons_append, splitL, if_neg (h x (List.mem_cons_self)), ih (fun y hy => h y (List.mem_cons_of_mem _ hy))]
theorem splitL_none {c : UInt8} {a : List UInt8} (h : ∀ x ∈ a, x ≠ c) : splitL c a = [a] := by
  induction a with
  | nil => rfl
  | cons x a ih =>
    rw [splitL, if_neg (h x (List.mem_cons_self)), ih (fun y hy => h y (List.mem_cons_of_mem _ hy))]
def cutL (c : UInt8) : List UInt8 → List UInt8 × List UInt8 × Bool
  | [] => ([], [], false)
  | x :: l => if x = c then ([], l, true) else (x :: (cutL c l).1, (cutL c l).2.1, (cutL c l).2.2)
theorem cutL_hit {c : UInt8} {a : List UInt8} (r : List UInt8) (h : ∀ x ∈ a, x ≠ c) : cutL c (a ++ c :: r) = (a, r, true) := by
  induction a with
  | nil => rw [List.nil_append, cutL, if_pos rfl]
  | cons x a ih =>
    rw [List.cons_append, cutL, if_neg (h x (List.mem_cons_self)), ih (fun y hy => h y (List.mem_cons_of_mem _ hy))]
theorem cutL_none {c : UInt8} {a : List UInt8} (h : ∀ x ∈ a, x ≠ c) : cutL c a = (a, [], false) := by
  induction a with
  | nil => rfl
  | cons x a ih =>
    rw [cutL, if_neg (h x (List.mem_cons_self)), ih (fun y hy => h y (List.mem_cons_of_mem _ hy))]
/-- A text has the byte, and then it falls into two at the first place; or it has not. -/
theorem cut_cases (c : UInt8) (l : List UInt8) : (∃ a r, l = a ++ c :: r ∧ (∀ x ∈ a, x ≠ c) ∧ cutL c l = (a, r, true) ∧ splitL c l = a :: splitL c r) ∨ ((∀ x ∈ l, x ≠ c) ∧ cutL c l = (l, [], false) ∧ splitL c l = [l]) := by
  by_cases h : ∀ x ∈ l, x ≠ c
  · exact Or.inr ⟨h, cutL_none h, splitL_none h⟩
  · left
    have : ∃ a r, l = a ++ c :: r ∧ ∀ x ∈ a, x ≠ c := by
      induction l with
      | nil => exact absurd (fun x hx => by simp at hx) h
      | cons y l ih =>
        by_cases hy : y = c
        · exact ⟨[], l, by rw [hy]; rfl, fun x hx => by simp at hx⟩
        · have h2 : ¬ ∀ x ∈ l, x ≠ c := fun h3 => h (fun x hx => by rcases List.mem_cons.1 hx with rfl | hx; exact hy; exact h3 x hx)
          obtain ⟨a, r, e, ha⟩ := ih h2
          exact ⟨y :: a, r, by rw [e]; rfl, fun x hx => by rcases List.mem_cons.1 hx with rfl | hx; exact hy; exact ha x hx⟩
    obtain ⟨a, r, e, ha⟩ := this
    exact ⟨a, r, e, ha, by rw [e]; exact cutL_hit r ha, by rw [e]; exact splitL_hit r ha⟩
def cutB (c : UInt8) (s : ByteArray) : ByteArray × ByteArray × Bool := (⟨(cutL c s.data.toList).1.toArray⟩, ⟨(cutL c s.data.toList).2.1.toArray⟩, (cutL c s.data.toList).2.2)
theorem ext_list (s : ByteArray) (a b : Nat) : (s.extract a b).data.toList = (s.data.toList.drop a).take (b - a) := by
  rw [ByteArray.data_extract, Array.toList_extract, List.extract_eq_take_drop]
theorem ba_mk {t : ByteArray} {l : List UInt8} (h : t.data.toList = l) : t = ⟨l.toArray⟩ := by
  apply ByteArray.ext
  rw [← h]
theorem ba_self (s : ByteArray) : s = ⟨s.data.toList.toArray⟩ := ba_mk rfl
theorem list_at (s : ByteArray) (k : Nat) (h : k < s.size) : s.data.toList = s.data.toList.take k ++ s[k] :: s.data.toList.drop (k + 1) := by
  have h1 : k < s.data.toList.length := by rw [ba_len]; exact h
  have h2 : s.data.toList.drop k = s.data.toList[k] :: s.data.toList.drop (k + 1) := List.drop_eq_getElem_cons h1
  have h3 : s.data.toList = s.data.toList.take k ++ s.data.toList.drop k := (List.take_append_drop k _).symm
  rw [h2] at h3
  exact h3
theorem one_list (s : ByteArray) (k : Nat) (h : k < s.size) : (s.extract k (k + 1)).data.toList = [s[k]] := by
  have h1 : k < s.data.toList.length := by rw [ba_len]; exact h
  rw [ext_list, List.drop_eq_getElem_cons h1, show k + 1 - k = 1 by omega]
  rfl
theorem tup3 {f f' r r' : ByteArray} {b b' : Bool} (h : (f, r, b) = (f', r', b')) : Ending.returned (.tuple #[.string f, .string r, .bool b]) = .returned (.tuple #[.string f', .string r', .bool b']) := by
  injection h with h1 h2
  injection h2 with h2 h3
  rw [h1, h2, h3]
set_option maxHeartbeats 2000000 in
theorem cut_any (c : UInt8) (s Y f r : ByteArray) (b : Bool) (hY : Y = ⟨#[c]⟩) (h : cutB c s = (f, r, b)) (hs : s.size ≤ 1048576) (w : World) :
    Calls Tryd.prog 20 #[.string s, .string Y] w fun e w' => e = .returned (.tuple #[.string f, .string r, .bool b]) ∧ Below w.heap.size w w' := by
  have HR := Lib.hid h
  have hY1 : Y.size = 1 := by rw [hY]; rfl
  have hYl : Hid (Y.data.toList = [c]) := by unfold Hid; rw [hY]
  clear h hY
  go_enter Tryd.func20, Tryd.ntmps20
  go_wp2_with fail
  go_loopw [7] (fun i wr => ∃ k : Nat, k ≤ s.size ∧ i = .int .i64 k ∧ Hid (∀ x ∈ s.data.toList.take k, x ≠ c) ∧ Below w.heap.size w wr) (fun i _ => s.size - (intOf i).toNat)
  case atStart => exact ⟨0, Nat.zero_le _, rfl, by unfold Hid; simp, by (repeat' (first | (with_reducible exact Below.refl _ _) | (with_reducible assumption) | (with_reducible refine Below.alloc ?_ ?_ _) | (with_reducible refine Below.drew ?_) | (with_reducible refine belowDrewN ?_ _) | (with_reducible refine Below.setCell ?_ ?_ _) | (with_reducible refine Below.via (by with_reducible assumption) ?_ ?_) | (with_reducible refine Below.viaD (by with_reducible assumption) ?_ ?_) | (with_reducible exact Below.size (by with_reducible assumption)) | go_size | (with_reducible refine Nat.le_trans ?_ (Below.size (by with_reducible assumption))) | (with_reducible refine Nat.le_trans ?_ (sizeAlloc _ _)) | (with_reducible refine Nat.le_trans ?_ (sizeSet _ _ _)) | (with_reducible refine Nat.le_trans ?_ (sizeDrew _))))⟩
  case round =>
    obtain ⟨k, hk, rfl, hall, hbl⟩ := hrel
    have HB := Lib.hid hbl
    clear hbl
    by_cases hlt : k < s.size
    · obtain ⟨X, hX⟩ : ∃ X, s.extract k (k + 1) = X := ⟨_, rfl⟩
      have hXl : X.data.toList = [s[k]] := by rw [← hX]; exact one_list s k hlt
      have hsp := list_at s k hlt
      have HT := Lib.hid (take_snocB s k hlt)
      obtain ⟨x, hx⟩ : ∃ x, s[k] = x := ⟨_, rfl⟩
      rw [hx] at hXl hsp HT
      clear hx
      by_cases hxc : x = c
      · subst hxc
        have hcmp : (X.toList == Y.toList) = true := by rw [beq_iff_eq, ByteArray.toList_eq, ByteArray.toList_eq, hXl, hYl.out]
        obtain ⟨f2, hf2⟩ : ∃ f, s.extract 0 k = f := ⟨_, rfl⟩
        obtain ⟨r2, hr2⟩ : ∃ r, s.extract (k + 1) s.size = r := ⟨_, rfl⟩
        have HE : Hid ((f2, r2, true) = (f, r, b)) := by
          unfold Hid
          rw [← HR.out, cutB]
          have h1 : cutL x s.data.toList = (s.data.toList.take k, s.data.toList.drop (k + 1), true) := by
            conv => lhs; rw [hsp]
            exact cutL_hit _ hall.out
          rw [h1]
          rw [ba_mk (t := f2) (l := s.data.toList.take k) (by rw [← hf2, ext_list]; rfl), ba_mk (t := r2) (l := s.data.toList.drop (k + 1)) (by rw [← hr2, ext_list, List.take_of_length_le (by rw [List.length_drop, ba_len]; omega)])]
        clear hXl hsp
        go_wp2_with fail
        go_region
        go_wp2_with fail
        go_ret3
        exact ⟨tup3 HE.out, by have := HB.out; (repeat' (first | (with_reducible exact Below.refl _ _) | (with_reducible assumption) | (with_reducible refine Below.alloc ?_ ?_ _) | (with_reducible refine Below.drew ?_) | (with_reducible refine belowDrewN ?_ _) | (with_reducible refine Below.setCell ?_ ?_ _) | (with_reducible refine Below.via (by with_reducible assumption) ?_ ?_) | (with_reducible refine Below.viaD (by with_reducible assumption) ?_ ?_) | (with_reducible exact Below.size (by with_reducible assumption)) | go_size | (with_reducible refine Nat.le_trans ?_ (Below.size (by with_reducible assumption))) | (with_reducible refine Nat.le_trans ?_ (sizeAlloc _ _)) | (with_reducible refine Nat.le_trans ?_ (sizeSet _ _ _)) | (with_reducible refine Nat.le_trans ?_ (sizeDrew _))))⟩
      · have hcmp : (X.toList == Y.toList) = false := by
          rw [beq_eq_false_iff_ne, ByteArray.toList_eq, ByteArray.toList_eq, hXl, hYl.out]
          intro h
          exact hxc (by injection h)
        have HX := Lib.hid hxc
        clear hXl hsp hxc
        go_wp2_with fail
        go_roundw
        case rel => exact ⟨k + 1, by omega, by go_num, by unfold Hid; rw [HT.out]; intro y hy; rcases List.mem_append.1 hy with h | h; exact hall.out y h; rw [List.mem_singleton.1 h]; exact HX.out, HB.out⟩
        case measure => first | (simp [intOf]; done) | (simp [intOf]; omega)
    · obtain rfl : k = s.size := by omega
      have HE : Hid ((s, (⟨#[]⟩ : ByteArray), false) = (f, r, b)) := by
        unfold Hid
        have h2 := hall.out
        rw [List.take_of_length_le (by rw [ba_len]; exact Nat.le_refl _)] at h2
        rw [← HR.out, cutB, cutL_none h2, ← ba_self]
      go_wp2_with fail
      go_ret3
      exact ⟨tup3 HE.out, HB.out⟩
def strV (l : List UInt8) : Value := .string ⟨l.toArray⟩
theorem info_str : (Tryd.prog.info? 9).map (fun i => (i.zero, i.size, i.bytes)) = some (some (.string ⟨#[]⟩), 1, 16) := by kernel_rfl
def SpP (ps : List (List UInt8)) (w : World) (e : Ending) (w' : World) : Prop :=
  ∃ (A : Option Addr) (g cap : Nat), e = .returned (.slice A ps.length cap) ∧ w.heap.size ≤ g ∧ OwnV w' g 9 1 A ps.length (ps.map strV) ∧ Below w.heap.size w w'
theorem strV_one (ps : List (List UInt8)) : ∀ u ∈ ps.map strV, u.oneCell' = true := by
  intro u hu
  rw [List.mem_map] at hu
  obtain ⟨b, _, rfl⟩ := hu
  rfl
theorem split_len (c : UInt8) (l : List UInt8) : (splitL c l).length ≤ l.length + 1 := by
  induction l with
  | nil => simp [splitL]
  | cons x l ih =>
    rw [splitL]
    split
    · simp; omega
    · split
      · simp
      · rename_i h t e
        rw [e] at ih
        simp at ih ⊢
        omega
set_option maxHeartbeats 2000000 in
theorem l01Split_any (c : UInt8) (cz : Int) (s : ByteArray) (hc : (c.toNat : Int) = cz) (hs : s.size ≤ 1048576) (w : World) :
    Calls Tryd.prog 24 #[.string s, .int .u8 cz] w (SpP (splitL c s.data.toList) w) := by
  obtain ⟨i0, ti, tz0, tz1, tz2⟩ := info_parts info_str
  have HC := Lib.hid hc
  clear hc
  go_enter Tryd.func24, Tryd.ntmps24
  go_wp2_with fail
  go_loopw [5, 6, 7] (fun v fv i wr => ∃ (k fr : Nat) (ps : List (List UInt8)), k ≤ s.size ∧ fr ≤ k ∧ i = .int .i64 k ∧ fv = .int .i64 fr ∧ wr.ownsRow w.heap.size 9 1 v ps.length (ps.map strV) ∧ ps.length ≤ k ∧ Hid (splitL c s.data.toList = ps ++ splitL c (s.data.toList.drop fr)) ∧ Hid (∀ x ∈ (s.data.toList.drop fr).take (k - fr), x ≠ c) ∧ Below w.heap.size w wr) (fun _ _ i _ => s.size - (intOf i).toNat)
  case atStart => exact ⟨0, 0, [], Nat.zero_le _, Nat.le_refl _, rfl, rfl, World.ownsRow_made _ _ 0 (Nat.le_refl _) (Nat.zero_le _) rfl, Nat.le_refl _, by unfold Hid; rfl, by unfold Hid; simp, by (repeat' (first | (with_reducible exact Below.refl _ _) | (with_reducible assumption) | (with_reducible refine Below.alloc ?_ ?_ _) | (with_reducible refine Below.drew ?_) | (with_reducible refine belowDrewN ?_ _) | (with_reducible refine Below.setCell ?_ ?_ _) | (with_reducible refine Below.via (by with_reducible assumption) ?_ ?_) | (with_reducible refine Below.viaD (by with_reducible assumption) ?_ ?_) | (with_reducible exact Below.size (by with_reducible assumption)) | go_size | (with_reducible refine Nat.le_trans ?_ (Below.size (by with_reducible assumption))) | (with_reducible refine Nat.le_trans ?_ (sizeAlloc _ _)) | (with_reducible refine Nat.le_trans ?_ (sizeSet _ _ _)) | (with_reducible refine Nat.le_trans ?_ (sizeDrew _))))⟩
  case round =>
    obtain ⟨k, fr, ps, hk, hfr, rfl, rfl, hown, hpl, hsp, hall, hbl⟩ := hrel
    have HB := Lib.hid hbl
    have hbs := hbl.size
    have HO := Lib.hid hown
    clear hbl hown
    by_cases hlt : k < s.size
    · have hla : Hid (s.data.toList.drop fr = (s.data.toList.drop fr).take (k - fr) ++ s[k] :: s.data.toList.drop (k + 1)) := by
        unfold Hid
        have h1 : k - fr < (s.data.toList.drop fr).length := by rw [List.length_drop, ba_len]; omega
        have h2 := List.drop_eq_getElem_cons h1
        have h3 := (List.take_append_drop (k - fr) (s.data.toList.drop fr)).symm
        rw [h2, List.getElem_drop, List.drop_drop] at h3
        have e1 : fr + (k - fr) = k := by omega
        have e2 : fr + (k - fr + 1) = k + 1 := by omega
        simp only [e1, e2] at h3
        exact h3
      have hta : Hid ((s.data.toList.drop fr).take (k + 1 - fr) = (s.data.toList.drop fr).take (k - fr) ++ [s[k]]) := by
        unfold Hid
        have h1 : k - fr < (s.data.toList.drop fr).length := by rw [List.length_drop, ba_len]; omega
        rw [show k + 1 - fr = (k - fr) + 1 by omega, List.take_add_one, List.getElem?_eq_getElem h1, List.getElem_drop]
        have e1 : fr + (k - fr) = k := by omega
        simp only [e1]
        rfl
      obtain ⟨x, hidx⟩ : ∃ x, s[k] = x := ⟨_, rfl⟩
      have HX := Lib.hid hidx
      rw [hidx] at hla hta
      obtain ⟨z, hz⟩ : ∃ z : Int, (x.toNat : Int) = z := ⟨_, rfl⟩
      by_cases hxc : x = c
      · subst hxc
        have hcmp : (z == cz) = true := by rw [beq_iff_eq, ← hz, HC.out]
        obtain ⟨X, hext⟩ : ∃ X, s.extract fr k = X := ⟨_, rfl⟩
        have HXl : Hid (X = ⟨((s.data.toList.drop fr).take (k - fr)).toArray⟩) := by unfold Hid; exact ba_mk (by rw [← hext, ext_list])
        have HV : Hid (Value.string X = strV ((s.data.toList.drop fr).take (k - fr))) := by unfold Hid strV; rw [HXl.out]
        have HN : Hid (splitL x s.data.toList = (ps ++ [(s.data.toList.drop fr).take (k - fr)]) ++ splitL x (s.data.toList.drop (k + 1))) := by
          unfold Hid
          rw [hsp.out, hla.out, splitL_hit _ hall.out, List.append_assoc, ← hla.out]
          rfl
        clear hsp hla hta
        go_wp2_with (at_builtin; refine wpList_append_sl _ rfl _ _ 47 rfl w.heap.size 9 i0 _ 1 16 Tryd.underlying47 ti tz0 tz1 tz2 rfl (by decide) _ ps.length (ps.map strV) rfl (HO.out.alloc _) (wr.heap.size + 1) _ 1 1 [.string X] rfl (Sl.built (by simp) (by simp) rfl) ?c1 ?c2 ?c3 ?c4 ?_)
        case c1 => intro u hu; simp at hu; subst hu; rfl
        case c2 => unfold maxLen; omega
        case c3 => omega
        case c4 => simp; omega
        intro v' w3 hown3 hg3 _
        have hbn : Below w.heap.size w w3 := below_app (by have := HB.out; (repeat' (first | (with_reducible exact Below.refl _ _) | (with_reducible assumption) | (with_reducible refine Below.alloc ?_ ?_ _) | (with_reducible refine Below.drew ?_) | (with_reducible refine belowDrewN ?_ _) | (with_reducible refine Below.setCell ?_ ?_ _) | (with_reducible refine Below.via (by with_reducible assumption) ?_ ?_) | (with_reducible refine Below.viaD (by with_reducible assumption) ?_ ?_) | (with_reducible exact Below.size (by with_reducible assumption)) | go_size | (with_reducible refine Nat.le_trans ?_ (Below.size (by with_reducible assumption))) | (with_reducible refine Nat.le_trans ?_ (sizeAlloc _ _)) | (with_reducible refine Nat.le_trans ?_ (sizeSet _ _ _)) | (with_reducible refine Nat.le_trans ?_ (sizeDrew _))))) (HO.out.alloc _) hg3 (Nat.le_refl _) (by simp; omega)
        have HO3 := Lib.hid hown3
        clear hown3 hg3
        go_wp2_with fail
        go_roundw
        case rel => exact ⟨k + 1, k + 1, ps ++ [(s.data.toList.drop fr).take (k - fr)], by omega, Nat.le_refl _, by go_num, by go_num, by rw [List.map_append, List.length_append]; have h := HO3.out; rw [HV.out] at h; exact h, by rw [List.length_append]; simp; omega, HN.out, by unfold Hid; simp, hbn⟩
        case measure => first | (simp [intOf]; done) | (simp [intOf]; omega)
      · have hcmp : (z == cz) = false := by
          rw [beq_eq_false_iff_ne, ← hz, ← HC.out]
          intro h
          exact hxc (UInt8.toNat_inj.1 (by omega))
        have HXC := Lib.hid hxc
        clear hxc
        go_wp2_with fail
        go_roundw
        case rel => exact ⟨k + 1, fr, ps, by omega, by omega, by go_num, rfl, HO.out, by omega, hsp.out, by unfold Hid; rw [hta.out]; intro y hy; rcases List.mem_append.1 hy with h | h; exact hall.out y h; rw [List.mem_singleton.1 h]; exact HXC.out, HB.out⟩
        case measure => first | (simp [intOf]; done) | (simp [intOf]; omega)
    · obtain rfl : k = s.size := by omega
      obtain ⟨X, hext⟩ : ∃ X, s.extract fr s.size = X := ⟨_, rfl⟩
      have hdr : (s.data.toList.drop fr).take (s.size - fr) = s.data.toList.drop fr := List.take_of_length_le (by rw [List.length_drop, ba_len]; exact Nat.le_refl _)
      have HV : Hid (Value.string X = strV (s.data.toList.drop fr)) := by
        unfold Hid strV
        rw [ba_mk (t := X) (by rw [← hext, ext_list, hdr])]
      have HN : Hid (splitL c s.data.toList = ps ++ [s.data.toList.drop fr]) := by
        unfold Hid
        have h2 := hall.out
        rw [hdr] at h2
        rw [hsp.out, splitL_none h2]
      clear hdr hsp
      go_wp2_with (at_builtin; refine wpList_append_sl _ rfl _ _ 47 rfl w.heap.size 9 i0 _ 1 16 Tryd.underlying47 ti tz0 tz1 tz2 rfl (by decide) _ ps.length (ps.map strV) rfl (HO.out.alloc _) (wr.heap.size + 1) _ 1 1 [.string X] rfl (Sl.built (by simp) (by simp) rfl) ?c1 ?c2 ?c3 ?c4 ?_)
      case c1 => intro u hu; simp at hu; subst hu; rfl
      case c2 => unfold maxLen; omega
      case c3 => omega
      case c4 => simp; omega
      intro v' w3 hown3 hg3 _
      have hbn : Below w.heap.size w w3 := below_app (by have := HB.out; (repeat' (first | (with_reducible exact Below.refl _ _) | (with_reducible assumption) | (with_reducible refine Below.alloc ?_ ?_ _) | (with_reducible refine Below.drew ?_) | (with_reducible refine belowDrewN ?_ _) | (with_reducible refine Below.setCell ?_ ?_ _) | (with_reducible refine Below.via (by with_reducible assumption) ?_ ?_) | (with_reducible refine Below.viaD (by with_reducible assumption) ?_ ?_) | (with_reducible exact Below.size (by with_reducible assumption)) | go_size | (with_reducible refine Nat.le_trans ?_ (Below.size (by with_reducible assumption))) | (with_reducible refine Nat.le_trans ?_ (sizeAlloc _ _)) | (with_reducible refine Nat.le_trans ?_ (sizeSet _ _ _)) | (with_reducible refine Nat.le_trans ?_ (sizeDrew _))))) (HO.out.alloc _) hg3 (Nat.le_refl _) (by simp; omega)
      rw [HV.out] at hown3
      obtain ⟨A', g, cap, rfl, hg, hnc, hcm, ho⟩ := own_of_row hown3
      have HO3 := Lib.hid ho
      clear hown3 hg3 ho
      go_wp2_with fail
      go_ret
      refine ⟨A', g, cap, ?_, hg, ?_, hbn⟩
      · rw [HN.out, List.length_append]; rfl
      · rw [HN.out, List.length_append, List.map_append]; exact HO3.out
end Go.Proofs.YteeplmnjipddaaaDoor
