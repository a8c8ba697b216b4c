/- Times and their texts: what both readers find. Conditions: the table of powers as it is laid. -/
import Derived.Test.YtbepfonpfnllkaaDoorG19
import Derived.Deep.CutBlock
import Derived.Test.YtbepfonpfnllkaaDoorG05
import Derived.Test.YtbepfonpfnllkaaDoorG09
/- FnTimes: two drawn clocks that are mostly alike. Conditions: at most 2^20 bytes. -/
namespace Go.Proofs.YtbepfonpfnllkaaDoor
set_option linter.unusedSimpArgs false
set_option linter.unusedVariables false
open Go.RowKit Go.WideShapes Go.ChangeShapes

/-- Two clocks' values for one or two players. -/
def SmD (w : World) (e : Ending) (w' : World) : Prop :=
  ∃ (A1 : Option Addr) (n1 c1 : Nat) (zs1 : List Int) (inc del pl si : Int) (ru fa : Bool) (A2 : Option Addr) (n2 c2 : Nat) (zs2 : List Int) (inc2 del2 pl2 si2 : Int) (ru2 fa2 : Bool), e = .returned (.tuple #[.agg #[.slice A1 n1 c1, .int .i64 inc, .int .i64 del, .int .i64 pl, .int .i64 si, .bool ru, .bool fa], .agg #[.slice A2 n2 c2, .int .i64 inc2, .int .i64 del2, .int .i64 pl2, .int .i64 si2, .bool ru2, .bool fa2]]) ∧ n1 ≤ 2 ∧ n2 ≤ 2 ∧ Sl w' w'.heap.size 1 A1 n1 (zs1.map (Value.int .i64)) ∧ Sl w' w'.heap.size 1 A2 n2 (zs2.map (Value.int .i64)) ∧ Below w.heap.size w w'
theorem own_set1 {w : World} {g n : Nat} {t : TypeId} {A : Option Addr} {zs : List Int} (h : OwnV w g t 1 A n (zs.map (Value.int .i64))) (h1 : 1 ≤ n) : ∃ z, w.cell? ⟨g, 0, none⟩ = some (.int .i64 z) ∧ w.frozen? ⟨g, 0, none⟩ = false ∧ A = some ⟨g, 0, none⟩ ∧ g < w.heap.size ∧ ∀ x : Int, ∃ zs' : List Int, OwnV (w.setCell ⟨g, 0, none⟩ (.int .i64 x)) g t 1 A n (zs'.map (Value.int .i64)) := by
  have hl := h.len
  simp only [List.length_map, Nat.mul_one] at hl
  obtain ⟨hA, rest, hb⟩ := h.blk (by omega)
  cases zs with
  | nil => simp at hl; omega
  | cons z r =>
    refine ⟨z, by have := hb.cell 0; simpa using this, hb.free 0, hA, hb.lt, fun x => ⟨x :: r, by simpa using hl, fun _ => ⟨hA, rest, ?_⟩⟩⟩
    have := hb.set 0 (.int .i64 x)
    simpa using this
set_option maxRecDepth 20000 in
set_option maxHeartbeats 4000000 in
theorem DrawSameClock_any (A : Option Addr) (n c : Nat) (cs : List Int) (w : World) (hs : Sl w w.heap.size 1 A n (cs.map (Value.int .u8))) (hc : ∀ z ∈ cs, 0 ≤ z ∧ z ≤ 255) (hn : n ≤ 1048576) :
    Calls Tryd.prog 13 #[.slice A n c] w (SmD w) := by
  have HC := Lib.hid hc
  have HS := Lib.hid hs
  have N1 : Hid (Below w.heap.size w (w.alloc (.cells #[.slice none 0 0, .int .i64 0, .int .i64 0, .int .i64 0, .int .i64 0, .bool false, .bool false] 33))) := Below.alloc (Below.refl _ _) (Nat.le_refl _) _
  have hz1 : (w.alloc (.cells #[.slice none 0 0, .int .i64 0, .int .i64 0, .int .i64 0, .int .i64 0, .bool false, .bool false] 33)).heap.size = w.heap.size + 1 := by simp
  have Ra := Lib.hid (Blk.new w 33 #[.slice none 0 0, .int .i64 0, .int .i64 0, .int .i64 0, .int .i64 0, .bool false, .bool false])
  clear hs hc
  go_enter Tryd.func13, Tryd.ntmps13
  go_upto_region 1 with fail
  obtain ⟨wa, hwa⟩ : ∃ wa, wa = (w.alloc (.cells #[.slice none 0 0, .int .i64 0, .int .i64 0, .int .i64 0, .int .i64 0, .bool false, .bool false] 33)).alloc (.cells #[.slice none 0 0, .int .i64 0, .int .i64 0, .int .i64 0, .int .i64 0, .bool false, .bool false] 33) := ⟨_, rfl⟩
  have N2 : Hid (Below (w.alloc (.cells #[.slice none 0 0, .int .i64 0, .int .i64 0, .int .i64 0, .int .i64 0, .bool false, .bool false] 33)).heap.size (w.alloc (.cells #[.slice none 0 0, .int .i64 0, .int .i64 0, .int .i64 0, .int .i64 0, .bool false, .bool false] 33)) wa) := by unfold Hid; rw [hwa]; exact Below.alloc (Below.refl _ _) (Nat.le_refl _) _
  have Rb : Hid (Blk wa (w.heap.size + 1) 33 #[.slice none 0 0, .int .i64 0, .int .i64 0, .int .i64 0, .int .i64 0, .bool false, .bool false]) := by unfold Hid; rw [hwa]; exact Blk.new' (by simp)
  have Ba := Lib.hid (Below.via N2.out N1.out (by omega))
  have Ra := Lib.hid (Ra.out.later N2.out)
  have hza : w.heap.size + 2 ≤ wa.heap.size := by rw [hwa]; simp
  rw [← hwa]
  clear hwa N1 N2
  go_wp2_with fail
  refine (l00From_any A n c cs wa ((HS.out.below Ba.out).mono Ba.out.size) HC.out).mono ?_
  rintro e w1 ⟨b, rfl, hb, S1, hb1⟩
  have HS1 := Lib.hid S1
  have Ra1 := Lib.hid (Ra.out.later hb1)
  have Rb1 := Lib.hid (Rb.out.later hb1)
  have B1 := Lib.hid (Below.via hb1 Ba.out Ba.out.size)
  have hza1 := hb1.size
  have hbl := S1.lt
  clear S1 hb1 Ra Rb Ba
  go_wp2_with fail
  refine (l23Bent_any b A n c 0 cs w1 HS1.out hn (by omega)).mono ?_
  rintro e w2 ⟨A1, g1, n1, cp1, zs1, inc, del, pl, si, ru, fa, rfl, hg1, h11, h12, hcp1, O1, S2, G2⟩
  have HS2 := Lib.hid S2
  have HO1 := Lib.hid O1
  have Ra2 := Lib.hid (blk_over Ra1.out G2 (by intro e; injection e with e; omega))
  have Rb2 := Lib.hid (blk_over Rb1.out G2 (by intro e; injection e with e; omega))
  have B2 := Lib.hid (below_src B1.out G2 (by omega) (by omega))
  have hza2 := G2.size
  have hgl1 := O1.lt (by omega)
  clear S2 O1 G2 HS1 Ra1 Rb1 B1
  go_upto_region 3 with fail
  obtain ⟨w3, hw3⟩ : ∃ w3, w3 = w2.alloc (.cells #[.slice A1 n1 cp1, .int .i64 inc, .int .i64 del, .int .i64 pl, .int .i64 si, .bool ru, .bool fa] 33) := ⟨_, rfl⟩
  have N3 : Hid (Below w2.heap.size w2 w3) := by unfold Hid; rw [hw3]; exact Below.alloc (Below.refl _ _) (Nat.le_refl _) _
  have X3 : Hid (Blk w3 w2.heap.size 33 #[.slice A1 n1 cp1, .int .i64 inc, .int .i64 del, .int .i64 pl, .int .i64 si, .bool ru, .bool fa]) := by unfold Hid; rw [hw3]; exact Blk.new _ _ _
  rw [← hw3]
  clear hw3
  have HS3 := Lib.hid (HS2.out.later N3.out)
  have HO3 := Lib.hid (HO1.out.later N3.out)
  have Ra3 := Lib.hid (Ra2.out.later N3.out)
  have Rb3 := Lib.hid (Rb2.out.later N3.out)
  have B3 := Lib.hid (Below.via N3.out B2.out (by omega))
  have hza3 := X3.out.lt
  clear HS2 HO1 Ra2 Rb2 B2 N3
  go_wp2_with fail
  refine (l23Own_any A1 n1 cp1 zs1 inc del pl si ru fa w2.heap.size w3 HO3.out.sl X3.out (by omega)).mono ?_
  rintro e w4 ⟨A2, g2, cp2, rfl, hg2, hcp2, O2, hb4⟩
  have HS4 := Lib.hid (HS3.out.later hb4)
  have HO4 := Lib.hid (HO3.out.later hb4)
  have Ra4 := Lib.hid (Ra3.out.later hb4)
  have Rb4 := Lib.hid (Rb3.out.later hb4)
  have X4 := Lib.hid (X3.out.later hb4)
  have HP4 := Lib.hid O2
  have B4 := Lib.hid (Below.via hb4 B3.out (by omega))
  have hza4 := hb4.size
  have hgl2 := O2.lt (by omega)
  clear O2 hb4 HS3 HO3 Ra3 Rb3 X3 B3
  go_upto_region 4 with fail
  obtain ⟨w5, hw5⟩ : ∃ w5, w5 = w4.alloc (.cells #[.slice A2 n1 cp2, .int .i64 inc, .int .i64 del, .int .i64 pl, .int .i64 si, .bool ru, .bool fa] 33) := ⟨_, rfl⟩
  have N5 : Hid (Below w4.heap.size w4 w5) := by unfold Hid; rw [hw5]; exact Below.alloc (Below.refl _ _) (Nat.le_refl _) _
  have Y5 : Hid (Blk w5 w4.heap.size 33 #[.slice A2 n1 cp2, .int .i64 inc, .int .i64 del, .int .i64 pl, .int .i64 si, .bool ru, .bool fa]) := by unfold Hid; rw [hw5]; exact Blk.new _ _ _
  rw [← hw5]
  clear hw5
  have HS5 := Lib.hid (HS4.out.later N5.out)
  have HO5 := Lib.hid (HO4.out.later N5.out)
  have Ra5 := Lib.hid (Ra4.out.later N5.out)
  have Rb5 := Lib.hid (Rb4.out.later N5.out)
  have X5 := Lib.hid (X4.out.later N5.out)
  have HP5 := Lib.hid (HP4.out.later N5.out)
  have B5 := Lib.hid (Below.via N5.out B4.out (by omega))
  have hza5 := Y5.out.lt
  clear HS4 HO4 Ra4 Rb4 X4 HP4 B4 N5
  go_wp2_with fail
  refine (pick_any b A n c (0 + 110) cs 4 w5 HS5.out hn (by omega) (by omega)).mono ?_
  rintro e w6 ⟨k, rfl, -, -, -, S6, g6⟩
  have Ra6 := Lib.hid (blk_over Ra5.out g6 (by intro e; injection e with e; omega))
  have Rb6 := Lib.hid (blk_over Rb5.out g6 (by intro e; injection e with e; omega))
  have X6 := Lib.hid (blk_over X5.out g6 (by intro e; injection e with e; have := HS5.out.lt; omega))
  have Y6 := Lib.hid (blk_over Y5.out g6 (by intro e; injection e with e; omega))
  have HO6 := Lib.hid (HO5.out.apart g6 (fun _ => by omega))
  have HP6 := Lib.hid (HP5.out.apart g6 (fun _ => by omega))
  have B6 := Lib.hid (below_src B5.out g6 (by omega) (by omega))
  have hza6 := g6.size
  clear S6 g6 HS5 HO5 HP5 Ra5 Rb5 X5 Y5 B5 HS HC
  go_upto_block 0 with fail
  go_cut [6] (fun s6 wx => s6 = .pointer (some ⟨w4.heap.size, 0, none⟩) ∧ ∃ (zs2 : List Int) (si2 : Int) (ru2 : Bool), Blk wx w2.heap.size 33 #[.slice A1 n1 cp1, .int .i64 inc, .int .i64 del, .int .i64 pl, .int .i64 si, .bool ru, .bool fa] ∧ Blk wx w4.heap.size 33 #[.slice A2 n1 cp2, .int .i64 inc, .int .i64 del, .int .i64 pl, .int .i64 si2, .bool ru2, .bool fa] ∧ OwnV wx g1 2 1 A1 n1 (zs1.map (Value.int .i64)) ∧ OwnV wx g2 2 1 A2 n1 (zs2.map (Value.int .i64)) ∧ Blk wx w.heap.size 33 #[.slice none 0 0, .int .i64 0, .int .i64 0, .int .i64 0, .int .i64 0, .bool false, .bool false] ∧ Blk wx (w.heap.size + 1) 33 #[.slice none 0 0, .int .i64 0, .int .i64 0, .int .i64 0, .int .i64 0, .bool false, .bool false] ∧ Below w.heap.size w wx)
  case first =>
    obtain ⟨⟨x0, x1, x2, x3, x4, x5, x6⟩, ⟨y0, y1, y2, y3, y4, y5, y6⟩, hxl⟩ := blk7 Y6.out
    by_cases k0 : k = 0
    · subst k0
      go_wp2_with fail
      go_meet
      exact ⟨rfl, zs1, _, _, blk_setF X6.out (by omega), by have h := Y6.out.set 4 (.int .i64 (wrap64 (si + 1))); simpa only [List.setIfInBounds_toArray, List.set_cons_zero, List.set_cons_succ] using h, own_setF HO6.out (by omega), own_setF HP6.out (by omega), blk_setF Ra6.out (by omega), blk_setF Rb6.out (by omega), Below.setCell B6.out (by dsimp only; omega) _⟩
    · have q0 : (k == 0) = false := beq_eq_false_iff_ne.mpr k0
      by_cases k1 : k = 1
      · subst k1
        obtain ⟨z, hz0, hz1', hA2, hgl, hset⟩ := own_set1 HP6.out h11
        have HSET := Lib.hid hset
        clear hset
        subst hA2
        go_wp2_with fail
        go_meet
        obtain ⟨zs2, hO⟩ := HSET.out (wrap64 (z + 1))
        exact ⟨rfl, zs2, _, _, blk_setF X6.out (by omega), blk_setF Y6.out (by omega), own_setF HO6.out (by omega), hO, blk_setF Ra6.out (by omega), blk_setF Rb6.out (by omega), Below.setCell B6.out (by dsimp only; omega) _⟩
      · have q1 : (k == 1) = false := beq_eq_false_iff_ne.mpr k1
        by_cases k2 : k = 2
        · subst k2
          go_wp2_with fail
          go_meet
          exact ⟨rfl, zs1, _, _, blk_setF X6.out (by omega), by have h := Y6.out.set 5 (.bool (!ru)); simpa only [List.setIfInBounds_toArray, List.set_cons_zero, List.set_cons_succ] using h, own_setF HO6.out (by omega), own_setF HP6.out (by omega), blk_setF Ra6.out (by omega), blk_setF Rb6.out (by omega), Below.setCell B6.out (by dsimp only; omega) _⟩
        · have q2 : (k == 2) = false := beq_eq_false_iff_ne.mpr k2
          go_wp2_with fail
          go_meet
          exact ⟨rfl, zs1, _, _, X6.out, Y6.out, HO6.out, HP6.out, Ra6.out, Rb6.out, B6.out⟩
  case rest =>
  obtain ⟨rfl, zs2, si2, ru2, X7, Y7, O7, P7, Ra7, Rb7, B7⟩ := hcut
  rename World => w7
  have HO7 := Lib.hid O7
  have HP7 := Lib.hid P7
  have HB7 := Lib.hid B7
  clear X6 Y6 HO6 HP6 Ra6 Rb6 B6 O7 P7 B7
  obtain ⟨⟨x0, x1, x2, x3, x4, x5, x6⟩, _, hxl⟩ := blk7 X7
  obtain ⟨⟨y0, y1, y2, y3, y4, y5, y6⟩, _, hyl⟩ := blk7 Y7
  obtain ⟨⟨r0, r1, r2, r3, r4, r5, r6⟩, ⟨f0, f1, f2, f3, f4, f5, f6⟩, hrl⟩ := blk7 Ra7
  obtain ⟨⟨s0, s1, s2, s3, s4, s5, s6⟩, ⟨t0, t1, t2, t3, t4, t5, t6⟩, hsl⟩ := blk7 Rb7
  clear X7 Y7 Ra7 Rb7
  have hne1 : w.heap.size ≠ w.heap.size + 1 := by omega
  have hne2 : w.heap.size + 1 ≠ w.heap.size := by omega
  have hne3 : w2.heap.size ≠ w.heap.size := by omega
  have hne4 : w2.heap.size ≠ w.heap.size + 1 := by omega
  have hne5 : w4.heap.size ≠ w.heap.size := by omega
  have hne6 : w4.heap.size ≠ w.heap.size + 1 := by omega
  have hng11 : g1 ≠ w.heap.size := by omega
  have hng12 : g1 ≠ w.heap.size + 1 := by omega
  have hng21 : g2 ≠ w.heap.size := by omega
  have hng22 : g2 ≠ w.heap.size + 1 := by omega
  go_wp2_with fail
  go_region
  all_goals
    go_wp2_with fail
    (try simp only [Exit.inBlock, Exit.then])
    refine bodyPost_ret (by simp [results, Tryd.results13, go_sem, r0, r1, r2, r3, r4, r5, r6, f0, f1, f2, f3, f4, f5, f6, s0, s1, s2, s3, s4, s5, s6, t0, t1, t2, t3, t4, t5, t6, hne1, hne2]; try rfl) rfl ?_
    refine ⟨A1, n1, cp1, zs1, inc, del, pl, si, ru, fa, A2, n1, cp2, zs2, inc, del, pl, si2, ru2, fa, rfl, h12, h12, ?_, ?_, ?_⟩
    · refine OwnV.sl (g := g1) (t := 2) ?_
      (repeat (first | (with_reducible refine own_drF ?_) | (with_reducible refine own_setF ?_ hng11) | (with_reducible refine own_setF ?_ hng12)))
      with_reducible exact HO7.out
    · refine OwnV.sl (g := g2) (t := 2) ?_
      (repeat (first | (with_reducible refine own_drF ?_) | (with_reducible refine own_setF ?_ hng21) | (with_reducible refine own_setF ?_ hng22)))
      with_reducible exact HP7.out
    · (repeat (first | (with_reducible refine Below.drew ?_) | (with_reducible refine Below.setCell ?_ (by dsimp only; omega) _))); with_reducible exact HB7.out
end Go.Proofs.YtbepfonpfnllkaaDoor
/- Texts cut at bytes: cut, parts, l01Split. Conditions: at most 2^20 bytes. -/
namespace Go.Proofs.YtbepfonpfnllkaaDoor
set_option linter.unusedSimpArgs false
set_option linter.unusedVariables false
open Go.RowKit Go.WideShapes

def splitL (c : UInt8) : List UInt8 → List (List UInt8)
  | [] => [[]]
  | x :: r => if x = c then [] :: splitL c r else match splitL c r with
    | [] => [[x]]
    | h :: t => (x :: h) :: t
theorem splitL_hit {c : UInt8} {a : List UInt8} (r : List UInt8) (h : ∀ x ∈ a, x ≠ c) : splitL c (a ++ c :: r) = a :: splitL c r := by
  induction a with
  | nil => rw [List.nil_append, splitL, if_pos rfl]
  | cons x a ih =>
    rw [List.cons_append, splitL, if_neg (h x (List.mem_cons_self)), ih (fun y hy => h y (List.mem_cons_of_mem _ hy))]
theorem splitL_none {c : UInt8} {a : List UInt8} (h : ∀ x ∈ a, x ≠ c) : splitL c a = [a] := by
  induction a with
  | nil => rfl
  | cons x a ih =>
    rw [splitL, if_neg (h x (List.mem_cons_self)), ih (fun y hy => h y (List.mem_cons_of_mem _ hy))]
def cutL (c : UInt8) : List UInt8 → List UInt8 × List UInt8 × Bool
  | [] => ([], [], false)
  | x :: l => if x = c then ([], l, true) else (x :: (cutL c l).1, (cutL c l).2.1, (cutL c l).2.2)
theorem cutL_hit {c : UInt8} {a : List UInt8} (r : List UInt8) (h : ∀ x ∈ a, x ≠ c) : cutL c (a ++ c :: r) = (a, r, true) := by
  induction a with
  | nil => rw [List.nil_append, cutL, if_pos rfl]
  | cons x a ih =>
    rw [List.cons_append, cutL, if_neg (h x (List.mem_cons_self)), ih (fun y hy => h y (List.mem_cons_of_mem _ hy))]
theorem cutL_none {c : UInt8} {a : List UInt8} (h : ∀ x ∈ a, x ≠ c) : cutL c a = (a, [], false) := by
  induction a with
  | nil => rfl
  | cons x a ih =>
    rw [cutL, if_neg (h x (List.mem_cons_self)), ih (fun y hy => h y (List.mem_cons_of_mem _ hy))]
/-- A text has the byte, and then it falls into two at the first place; or it has not. -/
theorem cut_cases (c : UInt8) (l : List UInt8) : (∃ a r, l = a ++ c :: r ∧ (∀ x ∈ a, x ≠ c) ∧ cutL c l = (a, r, true) ∧ splitL c l = a :: splitL c r) ∨ ((∀ x ∈ l, x ≠ c) ∧ cutL c l = (l, [], false) ∧ splitL c l = [l]) := by
  by_cases h : ∀ x ∈ l, x ≠ c
  · exact Or.inr ⟨h, cutL_none h, splitL_none h⟩
  · left
    have : ∃ a r, l = a ++ c :: r ∧ ∀ x ∈ a, x ≠ c := by
      induction l with
      | nil => exact absurd (fun x hx => by simp at hx) h
      | cons y l ih =>
        by_cases hy : y = c
        · exact ⟨[], l, by rw [hy]; rfl, fun x hx => by simp at hx⟩
        · have h2 : ¬ ∀ x ∈ l, x ≠ c := fun h3 => h (fun x hx => by rcases List.mem_cons.1 hx with rfl | hx; exact hy; exact h3 x hx)
          obtain ⟨a, r, e, ha⟩ := ih h2
          exact ⟨y :: a, r, by rw [e]; rfl, fun x hx => by rcases List.mem_cons.1 hx with rfl | hx; exact hy; exact ha x hx⟩
    obtain ⟨a, r, e, ha⟩ := this
    exact ⟨a, r, e, ha, by rw [e]; exact cutL_hit r ha, by rw [e]; exact splitL_hit r ha⟩
def cutB (c : UInt8) (s : ByteArray) : ByteArray × ByteArray × Bool := (⟨(cutL c s.data.toList).1.toArray⟩, ⟨(cutL c s.data.toList).2.1.toArray⟩, (cutL c s.data.toList).2.2)
theorem ext_list (s : ByteArray) (a b : Nat) : (s.extract a b).data.toList = (s.data.toList.drop a).take (b - a) := by
  rw [ByteArray.data_extract, Array.toList_extract, List.extract_eq_take_drop]
theorem ba_mk {t : ByteArray} {l : List UInt8} (h : t.data.toList = l) : t = ⟨l.toArray⟩ := by
  apply ByteArray.ext
  rw [← h]
theorem ba_self (s : ByteArray) : s = ⟨s.data.toList.toArray⟩ := ba_mk rfl
theorem list_at (s : ByteArray) (k : Nat) (h : k < s.size) : s.data.toList = s.data.toList.take k ++ s[k] :: s.data.toList.drop (k + 1) := by
  have h1 : k < s.data.toList.length := by rw [ba_len]; exact h
  have h2 : s.data.toList.drop k = s.data.toList[k] :: s.data.toList.drop (k + 1) := List.drop_eq_getElem_cons h1
  have h3 : s.data.toList = s.data.toList.take k ++ s.data.toList.drop k := (List.take_append_drop k _).symm
  rw [h2] at h3
  exact h3
theorem one_list (s : ByteArray) (k : Nat) (h : k < s.size) : (s.extract k (k + 1)).data.toList = [s[k]] := by
  have h1 : k < s.data.toList.length := by rw [ba_len]; exact h
  rw [ext_list, List.drop_eq_getElem_cons h1, show k + 1 - k = 1 by omega]
  rfl
theorem tup3 {f f' r r' : ByteArray} {b b' : Bool} (h : (f, r, b) = (f', r', b')) : Ending.returned (.tuple #[.string f, .string r, .bool b]) = .returned (.tuple #[.string f', .string r', .bool b']) := by
  injection h with h1 h2
  injection h2 with h2 h3
  rw [h1, h2, h3]
set_option maxHeartbeats 2000000 in
theorem cut_any (c : UInt8) (s Y f r : ByteArray) (b : Bool) (hY : Y = ⟨#[c]⟩) (h : cutB c s = (f, r, b)) (hs : s.size ≤ 1048576) (w : World) :
    Calls Tryd.prog 25 #[.string s, .string Y] w fun e w' => e = .returned (.tuple #[.string f, .string r, .bool b]) ∧ Below w.heap.size w w' := by
  have HR := Lib.hid h
  have hY1 : Y.size = 1 := by rw [hY]; rfl
  have hYl : Hid (Y.data.toList = [c]) := by unfold Hid; rw [hY]
  clear h hY
  go_enter Tryd.func25, Tryd.ntmps25
  go_wp2_with fail
  go_loopw [7] (fun i wr => ∃ k : Nat, k ≤ s.size ∧ i = .int .i64 k ∧ Hid (∀ x ∈ s.data.toList.take k, x ≠ c) ∧ Below w.heap.size w wr) (fun i _ => s.size - (intOf i).toNat)
  case atStart => exact ⟨0, Nat.zero_le _, rfl, by unfold Hid; simp, by (repeat' (first | (with_reducible exact Below.refl _ _) | (with_reducible assumption) | (with_reducible refine Below.alloc ?_ ?_ _) | (with_reducible refine Below.drew ?_) | (with_reducible refine belowDrewN ?_ _) | (with_reducible refine Below.setCell ?_ ?_ _) | (with_reducible refine Below.via (by with_reducible assumption) ?_ ?_) | (with_reducible refine Below.viaD (by with_reducible assumption) ?_ ?_) | (with_reducible exact Below.size (by with_reducible assumption)) | go_size | (with_reducible refine Nat.le_trans ?_ (Below.size (by with_reducible assumption))) | (with_reducible refine Nat.le_trans ?_ (sizeAlloc _ _)) | (with_reducible refine Nat.le_trans ?_ (sizeSet _ _ _)) | (with_reducible refine Nat.le_trans ?_ (sizeDrew _))))⟩
  case round =>
    obtain ⟨k, hk, rfl, hall, hbl⟩ := hrel
    have HB := Lib.hid hbl
    clear hbl
    by_cases hlt : k < s.size
    · obtain ⟨X, hX⟩ : ∃ X, s.extract k (k + 1) = X := ⟨_, rfl⟩
      have hXl : X.data.toList = [s[k]] := by rw [← hX]; exact one_list s k hlt
      have hsp := list_at s k hlt
      have HT := Lib.hid (take_snocB s k hlt)
      obtain ⟨x, hx⟩ : ∃ x, s[k] = x := ⟨_, rfl⟩
      rw [hx] at hXl hsp HT
      clear hx
      by_cases hxc : x = c
      · subst hxc
        have hcmp : (X.toList == Y.toList) = true := by rw [beq_iff_eq, ByteArray.toList_eq, ByteArray.toList_eq, hXl, hYl.out]
        obtain ⟨f2, hf2⟩ : ∃ f, s.extract 0 k = f := ⟨_, rfl⟩
        obtain ⟨r2, hr2⟩ : ∃ r, s.extract (k + 1) s.size = r := ⟨_, rfl⟩
        have HE : Hid ((f2, r2, true) = (f, r, b)) := by
          unfold Hid
          rw [← HR.out, cutB]
          have h1 : cutL x s.data.toList = (s.data.toList.take k, s.data.toList.drop (k + 1), true) := by
            conv => lhs; rw [hsp]
            exact cutL_hit _ hall.out
          rw [h1]
          rw [ba_mk (t := f2) (l := s.data.toList.take k) (by rw [← hf2, ext_list]; rfl), ba_mk (t := r2) (l := s.data.toList.drop (k + 1)) (by rw [← hr2, ext_list, List.take_of_length_le (by rw [List.length_drop, ba_len]; omega)])]
        clear hXl hsp
        go_wp2_with fail
        go_region
        go_wp2_with fail
        go_ret3
        exact ⟨tup3 HE.out, by have := HB.out; (repeat' (first | (with_reducible exact Below.refl _ _) | (with_reducible assumption) | (with_reducible refine Below.alloc ?_ ?_ _) | (with_reducible refine Below.drew ?_) | (with_reducible refine belowDrewN ?_ _) | (with_reducible refine Below.setCell ?_ ?_ _) | (with_reducible refine Below.via (by with_reducible assumption) ?_ ?_) | (with_reducible refine Below.viaD (by with_reducible assumption) ?_ ?_) | (with_reducible exact Below.size (by with_reducible assumption)) | go_size | (with_reducible refine Nat.le_trans ?_ (Below.size (by with_reducible assumption))) | (with_reducible refine Nat.le_trans ?_ (sizeAlloc _ _)) | (with_reducible refine Nat.le_trans ?_ (sizeSet _ _ _)) | (with_reducible refine Nat.le_trans ?_ (sizeDrew _))))⟩
      · have hcmp : (X.toList == Y.toList) = false := by
          rw [beq_eq_false_iff_ne, ByteArray.toList_eq, ByteArray.toList_eq, hXl, hYl.out]
          intro h
          exact hxc (by injection h)
        have HX := Lib.hid hxc
        clear hXl hsp hxc
        go_wp2_with fail
        go_roundw
        case rel => exact ⟨k + 1, by omega, by go_num, by unfold Hid; rw [HT.out]; intro y hy; rcases List.mem_append.1 hy with h | h; exact hall.out y h; rw [List.mem_singleton.1 h]; exact HX.out, HB.out⟩
        case measure => first | (simp [intOf]; done) | (simp [intOf]; omega)
    · obtain rfl : k = s.size := by omega
      have HE : Hid ((s, (⟨#[]⟩ : ByteArray), false) = (f, r, b)) := by
        unfold Hid
        have h2 := hall.out
        rw [List.take_of_length_le (by rw [ba_len]; exact Nat.le_refl _)] at h2
        rw [← HR.out, cutB, cutL_none h2, ← ba_self]
      go_wp2_with fail
      go_ret3
      exact ⟨tup3 HE.out, HB.out⟩
def strV (l : List UInt8) : Value := .string ⟨l.toArray⟩
theorem info_str : (Tryd.prog.info? 9).map (fun i => (i.zero, i.size, i.bytes)) = some (some (.string ⟨#[]⟩), 1, 16) := by kernel_rfl
def SpP (ps : List (List UInt8)) (w : World) (e : Ending) (w' : World) : Prop :=
  ∃ (A : Option Addr) (g cap : Nat), e = .returned (.slice A ps.length cap) ∧ w.heap.size ≤ g ∧ OwnV w' g 9 1 A ps.length (ps.map strV) ∧ Below w.heap.size w w'
theorem strV_one (ps : List (List UInt8)) : ∀ u ∈ ps.map strV, u.oneCell' = true := by
  intro u hu
  rw [List.mem_map] at hu
  obtain ⟨b, _, rfl⟩ := hu
  rfl
theorem split_len (c : UInt8) (l : List UInt8) : (splitL c l).length ≤ l.length + 1 := by
  induction l with
  | nil => simp [splitL]
  | cons x l ih =>
    rw [splitL]
    split
    · simp; omega
    · split
      · simp
      · rename_i h t e
        rw [e] at ih
        simp at ih ⊢
        omega
end Go.Proofs.YtbepfonpfnllkaaDoor
/- Times and their texts: what both readers find. Conditions: the table of powers as it is laid. -/
namespace Go.Proofs.YtbepfonpfnllkaaDoor
set_option linter.unusedSimpArgs false
set_option linter.unusedVariables false
open Go.RowKit Go.WideShapes Go.ChangeShapes

theorem dgt_of {k : Nat} (h : k < 10) : dgt (UInt8.ofNat (48 + k)) = true ∧ ((UInt8.ofNat (48 + k)).toNat : Int) = 48 + k := by
  have : (UInt8.ofNat (48 + k)).toNat = 48 + k := by rw [UInt8.toNat_ofNat', Nat.mod_eq_of_lt (by omega)]
  refine ⟨?_, by omega⟩
  rw [dgt, this, decide_eq_true_eq]; omega
theorem val1 (a : UInt8) : val [a] = (a.toNat : Int) - 48 := by simp [val]
theorem val2 (a b : UInt8) : val [a, b] = 10 * ((a.toNat : Int) - 48) + ((b.toNat : Int) - 48) := by simp [val]
theorem val3 (a b c : UInt8) : val [a, b, c] = 10 * (10 * ((a.toNat : Int) - 48) + ((b.toNat : Int) - 48)) + ((c.toNat : Int) - 48) := by simp [val]
theorem one_form {u : Nat} (h : u < 10) : ∃ a, Lib.itoa (u : Int) = [a] ∧ dgt a = true ∧ val [a] = u := by
  refine ⟨_, by rw [Lib.itoa_nonneg, Lib.decDigits_one h], (dgt_of h).1, ?_⟩
  rw [val1, (dgt_of h).2]; omega
theorem two_dec {u : Nat} (h0 : 10 ≤ u) (h : u < 100) : ∃ a b, Lib.decDigits u = [a, b] ∧ dgt a = true ∧ dgt b = true ∧ val [a, b] = u := by
  have h1 := dgt_of (k := u / 10) (by omega)
  have h2 := dgt_of (k := u % 10) (by omega)
  refine ⟨_, _, Lib.decDigits_two (by omega) h, h1.1, h2.1, ?_⟩
  rw [val2, h1.2, h2.2]; omega
theorem dgt48 : dgt 48 = true := by decide
theorem two_form {u : Nat} (h : u < 100) : ∃ a b, padL 2 (Lib.itoa (u : Int)) = [a, b] ∧ dgt a = true ∧ dgt b = true ∧ val [a, b] = u := by
  by_cases h1 : u < 10
  · obtain ⟨a, e, ha, hv⟩ := one_form h1
    refine ⟨48, a, by rw [e]; rfl, dgt48, ha, ?_⟩
    rw [val1] at hv
    rw [val2]; simp; omega
  · obtain ⟨a, b, e, ha, hb, hv⟩ := two_dec (by omega) h
    exact ⟨a, b, by rw [Lib.itoa_nonneg, e]; rfl, ha, hb, hv⟩
theorem three_form {u : Nat} (h : u < 1000) : ∃ a b c, padL 3 (Lib.itoa (u : Int)) = [a, b, c] ∧ dgt a = true ∧ dgt b = true ∧ dgt c = true ∧ val [a, b, c] = u := by
  by_cases h1 : u < 10
  · obtain ⟨a, e, ha, hv⟩ := one_form h1
    refine ⟨48, 48, a, by rw [e]; rfl, dgt48, dgt48, ha, ?_⟩
    rw [val1] at hv
    rw [val3]; simp; omega
  · by_cases h2 : u < 100
    · obtain ⟨a, b, e, ha, hb, hv⟩ := two_dec (by omega) h2
      refine ⟨48, a, b, by rw [Lib.itoa_nonneg, e]; rfl, dgt48, ha, hb, ?_⟩
      rw [val2] at hv
      rw [val3]; simp; omega
    · obtain ⟨a, b, e, ha, hb, hv⟩ := two_dec (u := u / 10) (by omega) (by omega)
      have h3 := dgt_of (k := u % 10) (by omega)
      refine ⟨a, b, UInt8.ofNat (48 + u % 10), ?_, ha, hb, h3.1, ?_⟩
      · rw [Lib.itoa_nonneg, Lib.decDigits, dif_neg (by omega), e]; rfl
      · rw [val2] at hv
        rw [val3, h3.2]; omega
/-- The text of a time, byte for byte. -/
theorem time_form {n : Int} (h0 : 0 ≤ n) (h1 : n ≤ 36000000) : ∃ H a b c d e f g, (timeT n).data.toList = H ++ 58 :: a :: b :: 58 :: c :: d :: 46 :: e :: f :: [g] ∧ ((∃ x, H = [x]) ∨ (∃ x y, H = [x, y])) ∧ (∀ x ∈ H, dgt x = true) ∧ dgt a = true ∧ dgt b = true ∧ dgt c = true ∧ dgt d = true ∧ dgt e = true ∧ dgt f = true ∧ dgt g = true ∧ val H * 3600000 + val [a, b] * 60000 + val [c, d] * 1000 + val [e, f, g] = n := by
  obtain ⟨u, rfl⟩ := Int.eq_ofNat_of_zero_le h0
  obtain ⟨a, b, e1, ha, hb, v1⟩ := two_form (u := u / 60000 % 60) (by omega)
  obtain ⟨c, d, e2, hc, hd, v2⟩ := two_form (u := u / 1000 % 60) (by omega)
  obtain ⟨e, f, g, e3, he, hf, hg, v3⟩ := three_form (u := u % 1000) (by omega)
  have hL : (timeT (u : Int)).data.toList = Lib.itoa ((u : Int) / 3600000) ++ 58 :: (padL 2 (Lib.itoa ((u : Int) / 60000 % 60)) ++ 58 :: (padL 2 (Lib.itoa ((u : Int) / 1000 % 60)) ++ 46 :: padL 3 (Lib.itoa ((u : Int) % 1000)))) := by
    simp [timeT, decS, padS, ByteArray.data_append, List.append_assoc]
  have q1 : (u : Int) / 60000 % 60 = ((u / 60000 % 60 : Nat) : Int) := by omega
  have q2 : (u : Int) / 1000 % 60 = ((u / 1000 % 60 : Nat) : Int) := by omega
  have q3 : (u : Int) % 1000 = ((u % 1000 : Nat) : Int) := by omega
  have q4 : (u : Int) / 3600000 = ((u / 3600000 : Nat) : Int) := by omega
  rw [q1, q2, q3, q4, e1, e2, e3] at hL
  by_cases h10 : u / 3600000 < 10
  · obtain ⟨x, ex, hx, vx⟩ := one_form h10
    rw [ex] at hL
    refine ⟨[x], a, b, c, d, e, f, g, hL, Or.inl ⟨x, rfl⟩, fun y hy => by rw [List.mem_singleton.1 hy]; exact hx, ha, hb, hc, hd, he, hf, hg, ?_⟩
    rw [vx, v1, v2, v3]; omega
  · obtain ⟨x, y, ex, hx, hy, vx⟩ := two_dec (u := u / 3600000) (by omega) (by omega)
    rw [Lib.itoa_nonneg, ex] at hL
    refine ⟨[x, y], a, b, c, d, e, f, g, hL, Or.inr ⟨x, y, rfl⟩, fun z hz => by rcases List.mem_cons.1 hz with rfl | hz; exact hx; rw [List.mem_singleton.1 hz]; exact hy, ha, hb, hc, hd, he, hf, hg, ?_⟩
    rw [vx, v1, v2, v3]; omega
def digW (l : List UInt8) : Bool := decide (l.length ≤ 5) && l.all dgt
/-- What the program's reader finds. -/
def pIb (l : List UInt8) : Bool := digW (cutL 58 l).1 && digW (cutL 58 (cutL 58 l).2.1).1 && digW (cutL 46 (cutL 58 (cutL 58 l).2.1).2.1).1 && digW (cutL 46 (cutL 58 (cutL 58 l).2.1).2.1).2.1
def pIv (l : List UInt8) : Int := val (cutL 58 l).1 * 3600000 + val (cutL 58 (cutL 58 l).2.1).1 * 60000 + val (cutL 46 (cutL 58 (cutL 58 l).2.1).2.1).1 * 1000 + val (cutL 46 (cutL 58 (cutL 58 l).2.1).2.1).2.1
theorem dgt_ne {x c : UInt8} (h : dgt x = true) (hc : dgt c = false) : x ≠ c := by rintro rfl; rw [hc] at h; exact absurd h (by decide)
theorem pI_time {n : Int} (h0 : 0 ≤ n) (h1 : n ≤ 36000000) : pIb (timeT n).data.toList = true ∧ pIv (timeT n).data.toList = n := by
  obtain ⟨H, a, b, c, d, e, f, g, hL, hH, hHd, ha, hb, hc, hd, he, hf, hg, hv⟩ := time_form h0 h1
  have c1 : cutL 58 (timeT n).data.toList = (H, a :: b :: 58 :: c :: d :: 46 :: e :: f :: [g], true) := by
    rw [hL]; exact cutL_hit _ (fun x hx => dgt_ne (hHd x hx) (by decide))
  have c2 : cutL 58 (a :: b :: 58 :: c :: d :: 46 :: e :: f :: [g]) = ([a, b], c :: d :: 46 :: e :: f :: [g], true) :=
    cutL_hit (a := [a, b]) _ (fun x hx => by rcases List.mem_cons.1 hx with rfl | hx; exact dgt_ne ha (by decide); rw [List.mem_singleton.1 hx]; exact dgt_ne hb (by decide))
  have c3 : cutL 46 (c :: d :: 46 :: e :: f :: [g]) = ([c, d], [e, f, g], true) :=
    cutL_hit (a := [c, d]) _ (fun x hx => by rcases List.mem_cons.1 hx with rfl | hx; exact dgt_ne hc (by decide); rw [List.mem_singleton.1 hx]; exact dgt_ne hd (by decide))
  have hHw : digW H = true := by
    rw [digW, List.all_eq_true.2 hHd, Bool.and_true, decide_eq_true_eq]
    rcases hH with ⟨x, rfl⟩ | ⟨x, y, rfl⟩ <;> simp
  rw [pIb, pIv, c1]
  simp only [c2, c3]
  refine ⟨?_, hv⟩
  rw [hHw]
  simp [digW, ha, hb, hc, hd, he, hf, hg]
def rdT (s : ByteArray) : Int × Bool := if pIb s.data.toList = true ∧ timeX (pIv s.data.toList) = s then (pIv s.data.toList, true) else (0, false)
theorem timeX_in {n : Int} (h0 : 0 ≤ n) (h1 : n ≤ 36000000) : timeX n = timeT n := by rw [timeX, tB, inB_t h0 h1]; rfl
theorem rdT_yes {n : Int} {s : ByteArray} (h0 : 0 ≤ n) (h1 : n ≤ 36000000) (h : timeT n = s) : rdT s = (n, true) := by
  subst h
  obtain ⟨h2, h3⟩ := pI_time h0 h1
  rw [rdT, if_pos ⟨h2, by rw [h3]; exact timeX_in h0 h1⟩, h3]
theorem rdT_no {s : ByteArray} (h : ∀ n : Int, 0 ≤ n → n ≤ 36000000 → timeT n ≠ s) : rdT s = (0, false) := by
  rw [rdT, if_neg]
  rintro ⟨h1, h2⟩
  cases q : tB (pIv s.data.toList)
  · rw [timeX, q] at h2
    have h3 : (⟨#[]⟩ : ByteArray) = s := h2
    subst h3
    rw [show pIv (⟨#[]⟩ : ByteArray).data.toList = 0 from rfl] at q
    exact absurd q (by decide)
  · have h3 := tB_bd q
    exact h _ h3.1 h3.2 (by rw [← timeX_in h3.1 h3.2]; exact h2)
theorem rdT_acc {s : ByteArray} (h1 : pIb s.data.toList = true) (h2 : timeX (pIv s.data.toList) = s) : rdT s = (pIv s.data.toList, true) := by rw [rdT, if_pos ⟨h1, h2⟩]
theorem rdT_rej {s : ByteArray} (h : ¬ (pIb s.data.toList = true ∧ timeX (pIv s.data.toList) = s)) : rdT s = (0, false) := by rw [rdT, if_neg h]
/-- What the reference's reader finds in a time's text. -/
def digV (l : List UInt8) : Int := if l.all dgt then val l else -1
theorem pS_time {n : Int} {s : ByteArray} (h0 : 0 ≤ n) (h1 : n ≤ 36000000) (h : timeT n = s) : (s.size = 11 ∨ s.size = 12) ∧ ((digV (s.extract 0 (s.size - 10)).data.toList * 60 + digV ((s.extract (s.size - 11) s.size).extract 2 4).data.toList) * 60 + digV ((s.extract (s.size - 11) s.size).extract 5 7).data.toList) * 1000 + digV ((s.extract (s.size - 11) s.size).extract 8 11).data.toList = n ∧ 0 ≤ digV (s.extract 0 (s.size - 10)).data.toList ∧ 0 ≤ digV ((s.extract (s.size - 11) s.size).extract 2 4).data.toList ∧ 0 ≤ digV ((s.extract (s.size - 11) s.size).extract 5 7).data.toList ∧ 0 ≤ digV ((s.extract (s.size - 11) s.size).extract 8 11).data.toList := by
  obtain ⟨H, a, b, c, d, e, f, g, hL, hH, hHd, ha, hb, hc, hd, he, hf, hg, hv⟩ := time_form h0 h1
  rw [h] at hL
  have hz := ba_len s
  have hd2 : ∀ l : List UInt8, (∀ x ∈ l, dgt x = true) → digV l = val l ∧ 0 ≤ val l := fun l hl => ⟨by rw [digV, if_pos (List.all_eq_true.2 hl)], (val_bd _ l rfl hl).1⟩
  have x2 : ∀ p q : UInt8, dgt p = true → dgt q = true → ∀ x ∈ [p, q], dgt x = true := fun p q hp hq x hx => by rcases List.mem_cons.1 hx with rfl | hx; exact hp; rw [List.mem_singleton.1 hx]; exact hq
  have x3 : ∀ x ∈ [e, f, g], dgt x = true := fun x hx => by rcases List.mem_cons.1 hx with rfl | hx; exact he; exact x2 f g hf hg x hx
  have k1 := hd2 _ (x2 a b ha hb)
  have k2 := hd2 _ (x2 c d hc hd)
  have k3 := hd2 _ x3
  have k0 := hd2 _ hHd
  rcases hH with ⟨x, rfl⟩ | ⟨x, y, rfl⟩
  · have hsz : s.size = 11 := by rw [← hz, hL]; rfl
    have e0 : (s.extract 0 (s.size - 10)).data.toList = [x] := by rw [ext_list, hL, hsz]; rfl
    have et : (s.extract (s.size - 11) s.size).data.toList = [x, 58, a, b, 58, c, d, 46, e, f, g] := by rw [ext_list, hL, hsz]; rfl
    have e1 : ((s.extract (s.size - 11) s.size).extract 2 4).data.toList = [a, b] := by rw [ext_list, et]; rfl
    have e2 : ((s.extract (s.size - 11) s.size).extract 5 7).data.toList = [c, d] := by rw [ext_list, et]; rfl
    have e3 : ((s.extract (s.size - 11) s.size).extract 8 11).data.toList = [e, f, g] := by rw [ext_list, et]; rfl
    rw [e0, e1, e2, e3, k0.1, k1.1, k2.1, k3.1]
    exact ⟨Or.inl hsz, by omega, k0.2, k1.2, k2.2, k3.2⟩
  · have hsz : s.size = 12 := by rw [← hz, hL]; rfl
    have e0 : (s.extract 0 (s.size - 10)).data.toList = [x, y] := by rw [ext_list, hL, hsz]; rfl
    have et : (s.extract (s.size - 11) s.size).data.toList = [y, 58, a, b, 58, c, d, 46, e, f, g] := by rw [ext_list, hL, hsz]; rfl
    have e1 : ((s.extract (s.size - 11) s.size).extract 2 4).data.toList = [a, b] := by rw [ext_list, et]; rfl
    have e2 : ((s.extract (s.size - 11) s.size).extract 5 7).data.toList = [c, d] := by rw [ext_list, et]; rfl
    have e3 : ((s.extract (s.size - 11) s.size).extract 8 11).data.toList = [e, f, g] := by rw [ext_list, et]; rfl
    rw [e0, e1, e2, e3, k0.1, k1.1, k2.1, k3.1]
    exact ⟨Or.inr hsz, by omega, k0.2, k1.2, k2.2, k3.2⟩
theorem digV_bd {l : List UInt8} {k : Nat} (h : l.length ≤ k) : -1 ≤ digV l ∧ digV l < (10 ^ k : Nat) := by
  rw [digV]
  split
  · rename_i h2
    have := val_le l k (List.all_eq_true.1 h2) h
    omega
  · have : 0 < 10 ^ k := Nat.pow_pos (by omega)
    omega
theorem digV_no {l : List UInt8} {c : UInt8} (hc : c ∈ l) (h : dgt c = false) : digV l = -1 := by
  rw [digV, if_neg]
  intro h2
  have := List.all_eq_true.1 h2 c hc
  rw [h] at this
  exact absurd this (by decide)
theorem digV_yes {l : List UInt8} (h : ∀ c ∈ l, dgt c = true) : digV l = val l := by rw [digV, if_pos (List.all_eq_true.2 h)]
set_option maxHeartbeats 2000000 in
theorem l23Digits_any (s : ByteArray) (v : Int) (hv : digV s.data.toList = v) (hs : s.size ≤ 12) (w : World) :
    Calls Tryd.prog 29 #[.string s] w fun e w' => e = .returned (.int .i64 v) ∧ w = w' := by
  have HV := Lib.hid hv
  clear hv
  go_enter Tryd.func29, Tryd.ntmps29
  go_wp2_with fail
  go_loopw [3, 4] (fun nv i wr => ∃ k : Nat, k ≤ s.size ∧ i = .int .i64 k ∧ nv = .int .i64 (val (s.data.toList.take k)) ∧ Hid (∀ c ∈ s.data.toList.take k, dgt c = true) ∧ w = wr) (fun _ i _ => s.size - (intOf i).toNat)
  case atStart => exact ⟨0, Nat.zero_le _, rfl, rfl, by unfold Hid; simp, rfl⟩
  case round =>
    obtain ⟨k, hk, rfl, rfl, hall, rfl⟩ := hrel
    obtain ⟨v0, hv0⟩ : ∃ v, val (s.data.toList.take k) = v := ⟨_, rfl⟩
    have hvb := val_le (s.data.toList.take k) k hall.out (by rw [List.length_take]; omega)
    rw [hv0] at hvb
    rw [hv0]
    have HV0 := Lib.hid hv0
    clear hv0
    by_cases hlt : k < s.size
    · have hv1 : v0 ≤ 999999999999 := by
        have h2 : 10 ^ k ≤ 10 ^ 12 := Nat.pow_le_pow_right (by omega) (by omega)
        omega
      have hv0 := hvb.1
      clear hvb
      obtain ⟨c, hidx⟩ : ∃ c, s[k] = c := ⟨_, rfl⟩
      have HM := Lib.hid (mem_at s k hlt)
      have HT := Lib.hid (take_snocB s k hlt)
      rw [hidx] at HM HT
      obtain ⟨z, hz⟩ : ∃ z : Int, (c.toNat : Int) = z := ⟨_, rfl⟩
      have HZ := Lib.hid hz
      have hz0 : 0 ≤ z := by omega
      cases hd : dgt c
      case false =>
        have HE := Lib.hid ((digV_no HM.out hd).symm.trans HV.out)
        have hzz : z < 48 ∨ 57 < z := by
          simp only [dgt, decide_eq_false_iff_not] at hd
          omega
        clear hd
        rcases hzz with hzz | hzz
        · have hd1 : decide (z < 48) = true := decide_eq_true hzz
          go_wp2_with fail
          go_ret
          exact ⟨by rw [← HE.out]; rfl, rfl⟩
        · have hd1 : decide (z < 48) = false := decide_eq_false (by omega)
          have hd2 : decide (57 < z) = true := decide_eq_true hzz
          go_wp2_with fail
          go_ret
          exact ⟨by rw [← HE.out]; rfl, rfl⟩
      case true =>
        obtain ⟨hc1, hc2⟩ := dgt_t hd
        rw [hz] at hc1 hc2
        have HGD := Lib.hid hd
        have hd1 : decide (z < 48) = false := decide_eq_false (by omega)
        have hd2 : decide (57 < z) = false := decide_eq_false (by omega)
        clear hd
        go_wp2_with fail
        go_roundw
        case rel => exact ⟨k + 1, by omega, by go_num, by rw [HT.out, val_snoc, HV0.out, HZ.out], by unfold Hid; rw [HT.out]; intro d hd; rcases List.mem_append.1 hd with h | h; exact hall.out d h; rw [List.mem_singleton.1 h]; exact HGD.out, by first | trivial | rfl⟩
        case measure => first | (simp [intOf]; done) | (simp [intOf]; omega)
    · obtain rfl : k = s.size := by omega
      have htake : s.data.toList.take s.size = s.data.toList := List.take_of_length_le (by rw [ba_len]; exact Nat.le_refl _)
      have h2 := hall.out
      have h3 := HV0.out
      rw [htake] at h2 h3
      have HE : Hid (v0 = v) := by unfold Hid; rw [← h3, ← HV.out, digV_yes h2]
      clear h2 h3 htake hvb
      go_wp2_with fail
      go_ret
      exact ⟨by rw [← HE.out]; rfl, rfl⟩
end Go.Proofs.YtbepfonpfnllkaaDoor
