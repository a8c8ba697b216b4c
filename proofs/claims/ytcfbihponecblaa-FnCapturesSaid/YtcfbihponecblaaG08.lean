/- FnCaptures: rules are drawn. Conditions: at most 2^20 bytes. -/
import Derived.Test.YtcfbihponecblaaG07
import Derived.Test.YtcfbihponecblaaG04
import Derived.Deep.DeepCutAuto
import Derived.Deep.CutBlock
namespace Go.Proofs.Ytcfbihponecblaa
set_option linter.unusedSimpArgs false
set_option linter.unusedVariables false
open Go.RowKit Go.WideShapes Go.ChangeShapes

def stdL : List ByteArray := [⟨#[107, 97, 108, 97, 104]⟩, ⟨#[109, 105, 110, 105]⟩, ⟨#[111, 119, 97, 114, 101]⟩, ⟨#[114, 101, 108, 97, 121]⟩]
theorem StandardNames_w (w : World) : Calls Try.prog 36 #[] w fun e w' => e = .returned (.slice (some ⟨w.heap.size, 0, none⟩) 4 4) ∧ w' = w.alloc (.cells (stdL.map Value.string).toArray 9) := by
  go_enter Try.func36, Try.ntmps36
  go_wp2_with fail
  go_returns
  exact ⟨rfl, rfl⟩
def StR (w : World) (e : Ending) (w' : World) : Prop := ∃ (p s : Int) (st sk re fe ag : Bool) (ca sl : Int), e = .returned (.tuple #[.agg #[.int .i64 p, .int .i64 s, .bool st, .bool sk, .bool re, .bool fe, .bool ag, .int .i64 ca, .int .i64 sl], .int .i64 0]) ∧ 2 ≤ p ∧ p ≤ 6 ∧ Below w.heap.size w w'
set_option maxHeartbeats 2000000 in
theorem StandardRules_in (x : ByteArray) (hx : x ∈ stdL) (w : World) : Calls Try.prog 14 #[.string x] w (StR w) := by
  simp only [stdL, List.mem_cons, List.not_mem_nil, or_false] at hx
  rcases hx with rfl | rfl | rfl | rfl
  all_goals
    go_enter Try.func14, Try.ntmps14
    go_wp2_with fail
    go_returns
    exact ⟨_, _, _, _, _, _, _, _, _, rfl, by decide, by decide, by (repeat' (first | (with_reducible exact Below.refl _ _) | (with_reducible assumption) | (with_reducible refine Below.alloc ?_ ?_ _) | (with_reducible refine Below.drew ?_) | (with_reducible refine belowDrewN ?_ _) | (with_reducible refine Below.setCell ?_ ?_ _) | (with_reducible refine Below.via (by with_reducible assumption) ?_ ?_) | (with_reducible refine Below.viaD (by with_reducible assumption) ?_ ?_) | (with_reducible exact Below.size (by with_reducible assumption)) | go_size | (with_reducible refine Nat.le_trans ?_ (Below.size (by with_reducible assumption))) | (with_reducible refine Nat.le_trans ?_ (sizeAlloc _ _)) | (with_reducible refine Nat.le_trans ?_ (sizeSet _ _ _)) | (with_reducible refine Nat.le_trans ?_ (sizeDrew _))))⟩
theorem StandardRules_mini (w : World) : Calls Try.prog 14 #[.string ⟨#[109, 105, 110, 105]⟩] w fun e w' => e = .returned (.tuple #[.agg #[.int .i64 3, .int .i64 2, .bool false, .bool false, .bool false, .bool true, .bool false, .int .i64 1, .int .i64 0], .int .i64 0]) ∧ Below w.heap.size w w' := by
  go_enter Try.func14, Try.ntmps14
  go_wp2_with fail
  go_returns
  exact ⟨rfl, by (repeat' (first | (with_reducible exact Below.refl _ _) | (with_reducible assumption) | (with_reducible refine Below.alloc ?_ ?_ _) | (with_reducible refine Below.drew ?_) | (with_reducible refine belowDrewN ?_ _) | (with_reducible refine Below.setCell ?_ ?_ _) | (with_reducible refine Below.via (by with_reducible assumption) ?_ ?_) | (with_reducible refine Below.viaD (by with_reducible assumption) ?_ ?_) | (with_reducible exact Below.size (by with_reducible assumption)) | go_size | (with_reducible refine Nat.le_trans ?_ (Below.size (by with_reducible assumption))) | (with_reducible refine Nat.le_trans ?_ (sizeAlloc _ _)) | (with_reducible refine Nat.le_trans ?_ (sizeSet _ _ _)) | (with_reducible refine Nat.le_trans ?_ (sizeDrew _))))⟩
/-- Rules with two to six pits, and the source as it lies. -/
def RuD (b : Nat) (A : Option Addr) (n c M : Nat) (cs : List Int) (w : World) (e : Ending) (w' : World) : Prop := ∃ (p s : Int) (st sk re fe ag : Bool) (ca sl : Int), e = .returned (.agg #[.int .i64 p, .int .i64 s, .bool st, .bool sk, .bool re, .bool fe, .bool ag, .int .i64 ca, .int .i64 sl]) ∧ 2 ≤ p ∧ p ≤ 6 ∧ Src w' b A n c (M + 24) cs ∧ w.grownBy w' (some b)
set_option maxRecDepth 20000 in
set_option maxHeartbeats 4000000 in
theorem l02Draw_any (b : Nat) (A : Option Addr) (n c M : Nat) (cs : List Int) (w : World) (h : Src w b A n c M cs) (hn : n ≤ 1048576) (hM : M ≤ 999990000) :
    Calls Try.prog 20 #[.pointer (some ⟨b, 0, none⟩)] w (RuD b A n c M cs w) := by
  have hbl := h.lt
  have HAB := Lib.hid h.aBelow
  have R0 := Lib.hid (Blk.new w 25 #[.int .i64 0, .int .i64 0, .bool false, .bool false, .bool false, .bool false, .bool false, .int .i64 0, .int .i64 0])
  have HS0 := Lib.hid (h.later (Below.alloc (Below.refl _ _) (Nat.le_refl _) (.cells #[.int .i64 0, .int .i64 0, .bool false, .bool false, .bool false, .bool false, .bool false, .int .i64 0, .int .i64 0] 25)))
  have HG0 : Hid (w.grownBy (w.alloc (.cells #[.int .i64 0, .int .i64 0, .bool false, .bool false, .bool false, .bool false, .bool false, .int .i64 0, .int .i64 0] 25)) (some b)) := grown_alloc (World.grownBy.refl _ _) _
  have hz0 : (w.alloc (.cells #[.int .i64 0, .int .i64 0, .bool false, .bool false, .bool false, .bool false, .bool false, .int .i64 0, .int .i64 0] 25)).heap.size = w.heap.size + 1 := by simp
  clear h
  go_enter Try.func20, Try.ntmps20
  go_wp2_with fail
  refine (one_any b A n c M cs 3 _ HS0.out hn (by omega) (by omega)).mono ?_
  rintro e w1 ⟨q, rfl, S1, g1⟩
  have HS1 := Lib.hid S1
  have HG1 := Lib.hid (grown_tr HG0.out g1)
  have R1 := Lib.hid (blk_over R0.out g1 (by intro e; injection e with e; omega))
  have hz1 := g1.size
  clear S1 g1 HS0 HG0 R0
  cases q
  case true =>
    go_wp2_with fail
    refine (StandardNames_w _).mono ?_
    rintro e _ ⟨rfl, rfl⟩
    go_wp2_with fail
    refine (textW b A n c (M + 2) cs stdL 4 w1 HS1.out hn (by omega) rfl (by omega) (by omega)).mono ?_
    rintro e w2 ⟨x, rfl, hx, S2, g2⟩
    have HS2 := Lib.hid S2
    have HG2 := Lib.hid (grown_tr HG1.out g2)
    have R2 := Lib.hid (blk_over R1.out g2 (by intro e; injection e with e; omega))
    have hz2 := g2.size
    clear S2 g2 HS1 HG1 R1
    go_wp2_with fail
    refine (StandardRules_in x hx _).mono ?_
    rintro e w3 ⟨p, s, st, sk, re, fe, ag, ca, sl, rfl, hp1, hp2, hb3⟩
    have HS3 := Lib.hid (HS2.out.later hb3)
    have HG3 := Lib.hid (grown_far HG2.out hb3)
    have R3 := Lib.hid (R2.out.later hb3)
    have hz3 := hb3.size
    clear hb3 HS2 HG2 R2 hx
    go_upto_region 3 with fail
    obtain ⟨w4, hw4⟩ : ∃ X_, X_ = w3.alloc (.cells #[.int .i64 p, .int .i64 s, .bool st, .bool sk, .bool re, .bool fe, .bool ag, .int .i64 ca, .int .i64 sl] 25) := ⟨_, rfl⟩
    have NN : Hid (Below w3.heap.size w3 w4) := by unfold Hid; rw [hw4]; exact Below.alloc (Below.refl _ _) (Nat.le_refl _) _
    have X4 : Hid (Blk w4 w3.heap.size 25 #[.int .i64 p, .int .i64 s, .bool st, .bool sk, .bool re, .bool fe, .bool ag, .int .i64 ca, .int .i64 sl]) := by unfold Hid; rw [hw4]; exact Blk.new _ _ _
    rw [← hw4]
    clear hw4
    have HS4 := Lib.hid (HS3.out.later NN.out)
    have HG4 := Lib.hid (grown_far HG3.out NN.out)
    have R4 := Lib.hid (R3.out.later NN.out)
    have hz4 := NN.out.size
    have hqz : w3.heap.size < w4.heap.size := X4.out.lt
    clear NN HS3 HG3 R3
    obtain ⟨⟨x0, x1, x2, x3, x4, x5, x6, x7, x8⟩, _, hxl⟩ := blk9 X4.out
    obtain ⟨⟨r0, r1, r2, r3, r4, r5, r6, r7, r8⟩, ⟨f0, f1, f2, f3, f4, f5, f6, f7, f8⟩, hrl⟩ := blk9 R4.out
    go_wp2_with fail
    (try simp only [Exit.inBlock, Exit.then])
    refine bodyPost_ret (by simp [results, Try.results20, go_sem, r0, r1, r2, r3, r4, r5, r6, r7, r8, f0, f1, f2, f3, f4, f5, f6, f7, f8]; try rfl) rfl ?_
    refine ⟨p, s, st, sk, re, fe, ag, ca, sl, rfl, hp1, hp2, ?_, ?_⟩
    · (repeat (first | (with_reducible refine Src.set ?_ _ _ (by dsimp only; omega) (fun b' off e h0 => by have := HAB.out b' off e h0; dsimp only; omega)) | (with_reducible refine src_drF ?_))); exact HS4.out.mono (by omega)
    · (repeat (first | (with_reducible refine set_grown ?_ (by dsimp only; omega)) | (with_reducible refine grown_drF ?_))); exact HG4.out
  case false =>
    go_wp2_with fail
    refine (pick_any b A n c (M + 2) cs 4 _ HS1.out hn (by omega) (by omega)).mono ?_
    rintro e w2 ⟨x, rfl, x0, x1, -, S2, g2⟩
    have hx := x1 (by omega)
    have HS2 := Lib.hid S2
    have HG2 := Lib.hid (grown_tr HG1.out g2)
    have R2 := Lib.hid (blk_over R1.out g2 (by intro e; injection e with e; omega))
    have hz2 := g2.size
    clear S2 g2 HS1 HG1 R1 x1
    go_wp2_with fail
    refine (pick_any b A n c (M + 4) cs 4 _ HS2.out hn (by omega) (by omega)).mono ?_
    rintro e w3 ⟨y, rfl, y0, y1, -, S3, g3⟩
    have hy := y1 (by omega)
    have HS3 := Lib.hid S3
    have HG3 := Lib.hid (grown_tr HG2.out g3)
    have R3 := Lib.hid (blk_over R2.out g3 (by intro e; injection e with e; omega))
    have hz3 := g3.size
    clear S3 g3 HS2 HG2 R2 y1
    go_upto_region 5 with fail
    obtain ⟨w4, hw4⟩ : ∃ X_, X_ = w3.alloc (.cells #[.int .i64 (2 + x), .int .i64 (1 + y), .bool false, .bool false, .bool false, .bool false, .bool false, .int .i64 0, .int .i64 0] 25) := ⟨_, rfl⟩
    have NN : Hid (Below w3.heap.size w3 w4) := by unfold Hid; rw [hw4]; exact Below.alloc (Below.refl _ _) (Nat.le_refl _) _
    have X4 : Hid (Blk w4 w3.heap.size 25 #[.int .i64 (2 + x), .int .i64 (1 + y), .bool false, .bool false, .bool false, .bool false, .bool false, .int .i64 0, .int .i64 0]) := by unfold Hid; rw [hw4]; exact Blk.new _ _ _
    rw [← hw4]
    clear hw4
    have HS4 := Lib.hid (HS3.out.later NN.out)
    have HG4 := Lib.hid (grown_far HG3.out NN.out)
    have R4 := Lib.hid (R3.out.later NN.out)
    have hz4 := NN.out.size
    have hqz : w3.heap.size < w4.heap.size := X4.out.lt
    clear NN HS3 HG3 R3
    obtain ⟨p, hp⟩ : ∃ p, 2 + x = p := ⟨_, rfl⟩
    obtain ⟨s, hs⟩ : ∃ s, 1 + y = s := ⟨_, rfl⟩
    rw [hp, hs] at X4
    have hp1 : 2 ≤ p := by omega
    have hp2 : p ≤ 6 := by omega
    clear hp hs x0 y0 hx hy
    go_wp2_with fail
    refine (one_any b A n c (M + 6) cs 2 _ HS4.out hn (by omega) (by omega)).mono ?_
    rintro e w5 ⟨st, rfl, S, g⟩
    have HS5 := Lib.hid S
    have HG5 := Lib.hid (grown_tr HG4.out g)
    have R5 := Lib.hid (blk_over R4.out g (by intro e; injection e with e; omega))
    have X5 := Lib.hid (blk_over X4.out g (by intro e; injection e with e; omega))
    have hz5 := g.size
    clear S g HS4 HG4 R4 X4
    obtain ⟨⟨x0, x1, x2, x3, x4, x5, x6, x7, x8⟩, ⟨y0, y1, y2, y3, y4, y5, y6, y7, y8⟩, hxl⟩ := blk9 X5.out
    go_upto_region 6 with fail
    clear x0 x1 x2 x3 x4 x5 x6 x7 x8 y0 y1 y2 y3 y4 y5 y6 y7 y8 hxl
    obtain ⟨w6, hw6⟩ : ∃ x, x = w5.setCell ⟨w3.heap.size, 2, none⟩ (.bool st) := ⟨_, rfl⟩
    rw [← hw6]
    have X6 : Hid (Blk w6 w3.heap.size 25 #[.int .i64 p, .int .i64 s, .bool st, .bool false, .bool false, .bool false, .bool false, .int .i64 0, .int .i64 0]) := by rw [hw6]; have h := X5.out.set 2 (.bool st); unfold Hid; simpa only [List.setIfInBounds_toArray, List.set_cons_zero, List.set_cons_succ] using h
    have HS6 : Hid (Src w6 b A n c (M + 8) cs) := by rw [hw6]; exact HS5.out.set _ _ (by dsimp only; omega) (fun b' off e h0 => by have := HAB.out b' off e h0; dsimp only; omega)
    have HG6 : Hid (w.grownBy w6 (some b)) := by rw [hw6]; exact set_grown HG5.out (by dsimp only; omega)
    have R6 : Hid (Blk w6 w.heap.size 25 #[.int .i64 0, .int .i64 0, .bool false, .bool false, .bool false, .bool false, .bool false, .int .i64 0, .int .i64 0]) := by rw [hw6]; exact blk_setF R5.out (by omega)
    have hz6 : w6.heap.size = w5.heap.size := by rw [hw6]; simp
    clear hw6 X5 HS5 HG5 R5
    go_wp2_with fail
    refine (one_any b A n c (M + 8) cs 2 _ HS6.out hn (by omega) (by omega)).mono ?_
    rintro e w7 ⟨sk, rfl, S, g⟩
    have HS7 := Lib.hid S
    have HG7 := Lib.hid (grown_tr HG6.out g)
    have R7 := Lib.hid (blk_over R6.out g (by intro e; injection e with e; omega))
    have X7 := Lib.hid (blk_over X6.out g (by intro e; injection e with e; omega))
    have hz7 := g.size
    clear S g HS6 HG6 R6 X6
    obtain ⟨⟨x0, x1, x2, x3, x4, x5, x6, x7, x8⟩, ⟨y0, y1, y2, y3, y4, y5, y6, y7, y8⟩, hxl⟩ := blk9 X7.out
    go_upto_region 7 with fail
    clear x0 x1 x2 x3 x4 x5 x6 x7 x8 y0 y1 y2 y3 y4 y5 y6 y7 y8 hxl
    obtain ⟨w8, hw8⟩ : ∃ x, x = w7.setCell ⟨w3.heap.size, 3, none⟩ (.bool sk) := ⟨_, rfl⟩
    rw [← hw8]
    have X8 : Hid (Blk w8 w3.heap.size 25 #[.int .i64 p, .int .i64 s, .bool st, .bool sk, .bool false, .bool false, .bool false, .int .i64 0, .int .i64 0]) := by rw [hw8]; have h := X7.out.set 3 (.bool sk); unfold Hid; simpa only [List.setIfInBounds_toArray, List.set_cons_zero, List.set_cons_succ] using h
    have HS8 : Hid (Src w8 b A n c (M + 10) cs) := by rw [hw8]; exact HS7.out.set _ _ (by dsimp only; omega) (fun b' off e h0 => by have := HAB.out b' off e h0; dsimp only; omega)
    have HG8 : Hid (w.grownBy w8 (some b)) := by rw [hw8]; exact set_grown HG7.out (by dsimp only; omega)
    have R8 : Hid (Blk w8 w.heap.size 25 #[.int .i64 0, .int .i64 0, .bool false, .bool false, .bool false, .bool false, .bool false, .int .i64 0, .int .i64 0]) := by rw [hw8]; exact blk_setF R7.out (by omega)
    have hz8 : w8.heap.size = w7.heap.size := by rw [hw8]; simp
    clear hw8 X7 HS7 HG7 R7
    go_wp2_with fail
    refine (one_any b A n c (M + 10) cs 4 _ HS8.out hn (by omega) (by omega)).mono ?_
    rintro e w9 ⟨re, rfl, S, g⟩
    have HS9 := Lib.hid S
    have HG9 := Lib.hid (grown_tr HG8.out g)
    have R9 := Lib.hid (blk_over R8.out g (by intro e; injection e with e; omega))
    have X9 := Lib.hid (blk_over X8.out g (by intro e; injection e with e; omega))
    have hz9 := g.size
    clear S g HS8 HG8 R8 X8
    obtain ⟨⟨x0, x1, x2, x3, x4, x5, x6, x7, x8⟩, ⟨y0, y1, y2, y3, y4, y5, y6, y7, y8⟩, hxl⟩ := blk9 X9.out
    go_upto_region 8 with fail
    clear x0 x1 x2 x3 x4 x5 x6 x7 x8 y0 y1 y2 y3 y4 y5 y6 y7 y8 hxl
    obtain ⟨w10, hw10⟩ : ∃ x, x = w9.setCell ⟨w3.heap.size, 4, none⟩ (.bool re) := ⟨_, rfl⟩
    rw [← hw10]
    have X10 : Hid (Blk w10 w3.heap.size 25 #[.int .i64 p, .int .i64 s, .bool st, .bool sk, .bool re, .bool false, .bool false, .int .i64 0, .int .i64 0]) := by rw [hw10]; have h := X9.out.set 4 (.bool re); unfold Hid; simpa only [List.setIfInBounds_toArray, List.set_cons_zero, List.set_cons_succ] using h
    have HS10 : Hid (Src w10 b A n c (M + 12) cs) := by rw [hw10]; exact HS9.out.set _ _ (by dsimp only; omega) (fun b' off e h0 => by have := HAB.out b' off e h0; dsimp only; omega)
    have HG10 : Hid (w.grownBy w10 (some b)) := by rw [hw10]; exact set_grown HG9.out (by dsimp only; omega)
    have R10 : Hid (Blk w10 w.heap.size 25 #[.int .i64 0, .int .i64 0, .bool false, .bool false, .bool false, .bool false, .bool false, .int .i64 0, .int .i64 0]) := by rw [hw10]; exact blk_setF R9.out (by omega)
    have hz10 : w10.heap.size = w9.heap.size := by rw [hw10]; simp
    clear hw10 X9 HS9 HG9 R9
    go_wp2_with fail
    refine (one_any b A n c (M + 12) cs 2 _ HS10.out hn (by omega) (by omega)).mono ?_
    rintro e w11 ⟨fe, rfl, S, g⟩
    have HS11 := Lib.hid S
    have HG11 := Lib.hid (grown_tr HG10.out g)
    have R11 := Lib.hid (blk_over R10.out g (by intro e; injection e with e; omega))
    have X11 := Lib.hid (blk_over X10.out g (by intro e; injection e with e; omega))
    have hz11 := g.size
    clear S g HS10 HG10 R10 X10
    obtain ⟨⟨x0, x1, x2, x3, x4, x5, x6, x7, x8⟩, ⟨y0, y1, y2, y3, y4, y5, y6, y7, y8⟩, hxl⟩ := blk9 X11.out
    go_upto_region 9 with fail
    clear x0 x1 x2 x3 x4 x5 x6 x7 x8 y0 y1 y2 y3 y4 y5 y6 y7 y8 hxl
    obtain ⟨w12, hw12⟩ : ∃ x, x = w11.setCell ⟨w3.heap.size, 5, none⟩ (.bool fe) := ⟨_, rfl⟩
    rw [← hw12]
    have X12 : Hid (Blk w12 w3.heap.size 25 #[.int .i64 p, .int .i64 s, .bool st, .bool sk, .bool re, .bool fe, .bool false, .int .i64 0, .int .i64 0]) := by rw [hw12]; have h := X11.out.set 5 (.bool fe); unfold Hid; simpa only [List.setIfInBounds_toArray, List.set_cons_zero, List.set_cons_succ] using h
    have HS12 : Hid (Src w12 b A n c (M + 14) cs) := by rw [hw12]; exact HS11.out.set _ _ (by dsimp only; omega) (fun b' off e h0 => by have := HAB.out b' off e h0; dsimp only; omega)
    have HG12 : Hid (w.grownBy w12 (some b)) := by rw [hw12]; exact set_grown HG11.out (by dsimp only; omega)
    have R12 : Hid (Blk w12 w.heap.size 25 #[.int .i64 0, .int .i64 0, .bool false, .bool false, .bool false, .bool false, .bool false, .int .i64 0, .int .i64 0]) := by rw [hw12]; exact blk_setF R11.out (by omega)
    have hz12 : w12.heap.size = w11.heap.size := by rw [hw12]; simp
    clear hw12 X11 HS11 HG11 R11
    go_cut [5] (fun s5 wx => s5 = .pointer (some ⟨w3.heap.size, 0, none⟩) ∧ ∃ ag : Bool, Blk wx w3.heap.size 25 #[.int .i64 p, .int .i64 s, .bool st, .bool sk, .bool re, .bool fe, .bool ag, .int .i64 0, .int .i64 0] ∧ Src wx b A n c (M + 16) cs ∧ w.grownBy wx (some b) ∧ Blk wx w.heap.size 25 #[.int .i64 0, .int .i64 0, .bool false, .bool false, .bool false, .bool false, .bool false, .int .i64 0, .int .i64 0] ∧ w3.heap.size < wx.heap.size)
    case first =>
      obtain ⟨⟨x0, x1, x2, x3, x4, x5, x6, x7, x8⟩, ⟨y0, y1, y2, y3, y4, y5, y6, y7, y8⟩, hxl⟩ := blk9 X12.out
      cases st
      case false =>
        go_wp2_with fail
        go_meet
        exact ⟨rfl, false, by have h := X12.out.set 6 (.bool false); simpa only [List.setIfInBounds_toArray, List.set_cons_zero, List.set_cons_succ] using h, (HS12.out.set _ _ (by dsimp only; omega) (fun b' off e h0 => by have := HAB.out b' off e h0; dsimp only; omega)).mono (by omega), set_grown HG12.out (by dsimp only; omega), blk_setF R12.out (by omega), by simp; omega⟩
      case true =>
        go_wp2_with fail
        refine (one_any b A n c (M + 14) cs 2 _ HS12.out hn (by omega) (by omega)).mono ?_
        rintro e wy ⟨v, rfl, S, g⟩
        have HSY := Lib.hid S
        have HGY := Lib.hid (grown_tr HG12.out g)
        have RY := Lib.hid (blk_over R12.out g (by intro e; injection e with e; omega))
        have XY := Lib.hid (blk_over X12.out g (by intro e; injection e with e; omega))
        have hzy := g.size
        clear S g x0 x1 x2 x3 x4 x5 x6 x7 x8 y0 y1 y2 y3 y4 y5 y6 y7 y8
        obtain ⟨⟨x0, x1, x2, x3, x4, x5, x6, x7, x8⟩, ⟨y0, y1, y2, y3, y4, y5, y6, y7, y8⟩, hxl⟩ := blk9 XY.out
        go_wp2_with fail
        go_meet
        exact ⟨rfl, v, by have h := XY.out.set 6 (.bool v); simpa only [List.setIfInBounds_toArray, List.set_cons_zero, List.set_cons_succ] using h, (HSY.out.set _ _ (by dsimp only; omega) (fun b' off e h0 => by have := HAB.out b' off e h0; dsimp only; omega)).mono (by omega), set_grown HGY.out (by dsimp only; omega), blk_setF RY.out (by omega), by simp; omega⟩
    case rest =>
    obtain ⟨rfl, ag, X13, SL, GL, R13, hz13⟩ := hcut
    rename World => w13
    have X13 := Lib.hid X13
    have HS13 := Lib.hid SL
    have HG13 := Lib.hid GL
    have R13 := Lib.hid R13
    clear SL GL X12 HS12 HG12 R12
    go_wp2_with fail
    refine (pick_any b A n c (M + 16) cs 4 _ HS13.out hn (by omega) (by omega)).mono ?_
    rintro e w14 ⟨ca, rfl, -, -, -, S, g⟩
    have HS14 := Lib.hid S
    have HG14 := Lib.hid (grown_tr HG13.out g)
    have R14 := Lib.hid (blk_over R13.out g (by intro e; injection e with e; omega))
    have X14 := Lib.hid (blk_over X13.out g (by intro e; injection e with e; omega))
    have hz14 := g.size
    clear S g HS13 HG13 R13 X13
    obtain ⟨⟨x0, x1, x2, x3, x4, x5, x6, x7, x8⟩, ⟨y0, y1, y2, y3, y4, y5, y6, y7, y8⟩, hxl⟩ := blk9 X14.out
    go_upto_region 11 with fail
    clear x0 x1 x2 x3 x4 x5 x6 x7 x8 y0 y1 y2 y3 y4 y5 y6 y7 y8 hxl
    obtain ⟨w15, hw15⟩ : ∃ x, x = w14.setCell ⟨w3.heap.size, 7, none⟩ (.int .i64 ca) := ⟨_, rfl⟩
    rw [← hw15]
    have X15 : Hid (Blk w15 w3.heap.size 25 #[.int .i64 p, .int .i64 s, .bool st, .bool sk, .bool re, .bool fe, .bool ag, .int .i64 ca, .int .i64 0]) := by rw [hw15]; have h := X14.out.set 7 (.int .i64 ca); unfold Hid; simpa only [List.setIfInBounds_toArray, List.set_cons_zero, List.set_cons_succ] using h
    have HS15 : Hid (Src w15 b A n c (M + 18) cs) := by rw [hw15]; exact HS14.out.set _ _ (by dsimp only; omega) (fun b' off e h0 => by have := HAB.out b' off e h0; dsimp only; omega)
    have HG15 : Hid (w.grownBy w15 (some b)) := by rw [hw15]; exact set_grown HG14.out (by dsimp only; omega)
    have R15 : Hid (Blk w15 w.heap.size 25 #[.int .i64 0, .int .i64 0, .bool false, .bool false, .bool false, .bool false, .bool false, .int .i64 0, .int .i64 0]) := by rw [hw15]; exact blk_setF R14.out (by omega)
    have hz15 : w15.heap.size = w14.heap.size := by rw [hw15]; simp
    clear hw15 X14 HS14 HG14 R14
    go_wp2_with fail
    refine (pick_any b A n c (M + 18) cs 3 _ HS15.out hn (by omega) (by omega)).mono ?_
    rintro e w16 ⟨sl, rfl, -, -, -, S, g⟩
    have HS16 := Lib.hid S
    have HG16 := Lib.hid (grown_tr HG15.out g)
    have R16 := Lib.hid (blk_over R15.out g (by intro e; injection e with e; omega))
    have X16 := Lib.hid (blk_over X15.out g (by intro e; injection e with e; omega))
    have hz16 := g.size
    clear S g HS15 HG15 R15 X15
    obtain ⟨⟨x0, x1, x2, x3, x4, x5, x6, x7, x8⟩, ⟨y0, y1, y2, y3, y4, y5, y6, y7, y8⟩, hxl⟩ := blk9 X16.out
    go_upto_region 12 with fail
    clear x0 x1 x2 x3 x4 x5 x6 x7 x8 y0 y1 y2 y3 y4 y5 y6 y7 y8 hxl
    obtain ⟨w17, hw17⟩ : ∃ x, x = w16.setCell ⟨w3.heap.size, 8, none⟩ (.int .i64 sl) := ⟨_, rfl⟩
    rw [← hw17]
    have X17 : Hid (Blk w17 w3.heap.size 25 #[.int .i64 p, .int .i64 s, .bool st, .bool sk, .bool re, .bool fe, .bool ag, .int .i64 ca, .int .i64 sl]) := by rw [hw17]; have h := X16.out.set 8 (.int .i64 sl); unfold Hid; simpa only [List.setIfInBounds_toArray, List.set_cons_zero, List.set_cons_succ] using h
    have HS17 : Hid (Src w17 b A n c (M + 20) cs) := by rw [hw17]; exact HS16.out.set _ _ (by dsimp only; omega) (fun b' off e h0 => by have := HAB.out b' off e h0; dsimp only; omega)
    have HG17 : Hid (w.grownBy w17 (some b)) := by rw [hw17]; exact set_grown HG16.out (by dsimp only; omega)
    have R17 : Hid (Blk w17 w.heap.size 25 #[.int .i64 0, .int .i64 0, .bool false, .bool false, .bool false, .bool false, .bool false, .int .i64 0, .int .i64 0]) := by rw [hw17]; exact blk_setF R16.out (by omega)
    have hz17 : w17.heap.size = w16.heap.size := by rw [hw17]; simp
    clear hw17 X16 HS16 HG16 R16
    obtain ⟨⟨x0, x1, x2, x3, x4, x5, x6, x7, x8⟩, _, hxl⟩ := blk9 X17.out
    obtain ⟨⟨r0, r1, r2, r3, r4, r5, r6, r7, r8⟩, ⟨f0, f1, f2, f3, f4, f5, f6, f7, f8⟩, hrl⟩ := blk9 R17.out
    go_wp2_with fail
    (try simp only [Exit.inBlock, Exit.then])
    refine bodyPost_ret (by simp [results, Try.results20, go_sem, r0, r1, r2, r3, r4, r5, r6, r7, r8, f0, f1, f2, f3, f4, f5, f6, f7, f8]; try rfl) rfl ?_
    refine ⟨p, s, st, sk, re, fe, ag, ca, sl, rfl, hp1, hp2, ?_, ?_⟩
    · (repeat (first | (with_reducible refine Src.set ?_ _ _ (by dsimp only; omega) (fun b' off e h0 => by have := HAB.out b' off e h0; dsimp only; omega)) | (with_reducible refine src_drF ?_))); exact HS17.out.mono (by omega)
    · (repeat (first | (with_reducible refine set_grown ?_ (by dsimp only; omega)) | (with_reducible refine grown_drF ?_))); exact HG17.out
/-- Some rules, and the source as it lies. -/
def RuB (b : Nat) (A : Option Addr) (n c M : Nat) (cs : List Int) (w : World) (e : Ending) (w' : World) : Prop := ∃ (p s : Int) (st sk re fe ag : Bool) (ca sl : Int), e = .returned (.agg #[.int .i64 p, .int .i64 s, .bool st, .bool sk, .bool re, .bool fe, .bool ag, .int .i64 ca, .int .i64 sl]) ∧ Src w' b A n c (M + 30) cs ∧ w.grownBy w' (some b)
set_option maxRecDepth 20000 in
set_option maxHeartbeats 4000000 in
theorem l02Bent_any (b : Nat) (A : Option Addr) (n c M : Nat) (cs : List Int) (w : World) (h : Src w b A n c M cs) (hn : n ≤ 1048576) (hM : M ≤ 999980000) :
    Calls Try.prog 25 #[.pointer (some ⟨b, 0, none⟩)] w (RuB b A n c M cs w) := by
  have hbl := h.lt
  have HAB := Lib.hid h.aBelow
  have R0 := Lib.hid (Blk.new w 25 #[.int .i64 0, .int .i64 0, .bool false, .bool false, .bool false, .bool false, .bool false, .int .i64 0, .int .i64 0])
  have HS0 := Lib.hid (h.later (Below.alloc (Below.refl _ _) (Nat.le_refl _) (.cells #[.int .i64 0, .int .i64 0, .bool false, .bool false, .bool false, .bool false, .bool false, .int .i64 0, .int .i64 0] 25)))
  have HG0 : Hid (w.grownBy (w.alloc (.cells #[.int .i64 0, .int .i64 0, .bool false, .bool false, .bool false, .bool false, .bool false, .int .i64 0, .int .i64 0] 25)) (some b)) := grown_alloc (World.grownBy.refl _ _) _
  have hz0 : (w.alloc (.cells #[.int .i64 0, .int .i64 0, .bool false, .bool false, .bool false, .bool false, .bool false, .int .i64 0, .int .i64 0] 25)).heap.size = w.heap.size + 1 := by simp
  clear h
  go_enter Try.func25, Try.ntmps25
  go_wp2_with fail
  refine (l02Draw_any b A n c M cs _ HS0.out hn (by omega)).mono ?_
  rintro e w3 ⟨p, s, st, sk, re, fe, ag, ca, sl, rfl, -, -, S3, g3⟩
  have HS3 := Lib.hid S3
  have HG3 := Lib.hid (grown_tr HG0.out g3)
  have R3 := Lib.hid (blk_over R0.out g3 (by intro e; injection e with e; omega))
  have hz3 := g3.size
  clear S3 g3 HS0 HG0 R0
  go_upto_region 2 with fail
  obtain ⟨w4, hw4⟩ : ∃ X_, X_ = w3.alloc (.cells #[.int .i64 p, .int .i64 s, .bool st, .bool sk, .bool re, .bool fe, .bool ag, .int .i64 ca, .int .i64 sl] 25) := ⟨_, rfl⟩
  have NN : Hid (Below w3.heap.size w3 w4) := by unfold Hid; rw [hw4]; exact Below.alloc (Below.refl _ _) (Nat.le_refl _) _
  have X4 : Hid (Blk w4 w3.heap.size 25 #[.int .i64 p, .int .i64 s, .bool st, .bool sk, .bool re, .bool fe, .bool ag, .int .i64 ca, .int .i64 sl]) := by unfold Hid; rw [hw4]; exact Blk.new _ _ _
  rw [← hw4]
  clear hw4
  have HS4 := Lib.hid (HS3.out.later NN.out)
  have HG4 := Lib.hid (grown_far HG3.out NN.out)
  have R4 := Lib.hid (R3.out.later NN.out)
  have hz4 := NN.out.size
  have hqz : w3.heap.size < w4.heap.size := X4.out.lt
  clear NN HS3 HG3 R3
  go_wp2_with fail
  refine (pick_any b A n c (M + 24) cs 24 _ HS4.out hn (by omega) (by omega)).mono ?_
  rintro e w5 ⟨k, rfl, -, -, -, S5, g5⟩
  have HS5 := Lib.hid S5
  have HG5 := Lib.hid (grown_tr HG4.out g5)
  have R5 := Lib.hid (blk_over R4.out g5 (by intro e; injection e with e; omega))
  have X5 := Lib.hid (blk_over X4.out g5 (by intro e; injection e with e; omega))
  have hz5 := g5.size
  have hqz : w3.heap.size < w5.heap.size := X5.out.lt
  clear S5 g5 HS4 HG4 R4 X4
  go_upto_block 0 with fail
  go_cut [3] (fun s3 wx => s3 = .pointer (some ⟨w3.heap.size, 0, none⟩) ∧ ∃ (p s : Int) (st sk re fe ag : Bool) (ca sl : Int), Blk wx w3.heap.size 25 #[.int .i64 p, .int .i64 s, .bool st, .bool sk, .bool re, .bool fe, .bool ag, .int .i64 ca, .int .i64 sl] ∧ Src wx b A n c (M + 30) cs ∧ w.grownBy wx (some b) ∧ Blk wx w.heap.size 25 #[.int .i64 0, .int .i64 0, .bool false, .bool false, .bool false, .bool false, .bool false, .int .i64 0, .int .i64 0])
  case first =>
    obtain ⟨⟨x0, x1, x2, x3, x4, x5, x6, x7, x8⟩, ⟨y0, y1, y2, y3, y4, y5, y6, y7, y8⟩, hxl⟩ := blk9 X5.out
    by_cases k0 : k = 0
    · subst k0
      go_wp2_with fail
      refine (amongW b A n c (M + 26) cs [1, 2, 8, 9, -9223372036854775808] 5 _ HS5.out hn (by omega) rfl (by omega) (by omega)).mono ?_
      rintro e w7 ⟨v, rfl, -, S7, g7⟩
      have HS7 := Lib.hid S7
      have HG7 := Lib.hid (grown_tr HG5.out g7)
      have R7 := Lib.hid (blk_over R5.out g7 (by intro e; injection e with e; omega))
      have X7 := Lib.hid (blk_over X5.out g7 (by intro e; injection e with e; omega))
      have hz7 := g7.size
      clear S7 g7 x0 x1 x2 x3 x4 x5 x6 x7 x8 y0 y1 y2 y3 y4 y5 y6 y7 y8
      obtain ⟨⟨x0, x1, x2, x3, x4, x5, x6, x7, x8⟩, ⟨y0, y1, y2, y3, y4, y5, y6, y7, y8⟩, hxl⟩ := blk9 X7.out
      go_wp2_with fail
      go_meet
      exact ⟨rfl, _, _, _, _, _, _, _, _, _, by have h := X7.out.set 0 (.int .i64 v); simpa only [List.setIfInBounds_toArray, List.set_cons_zero, List.set_cons_succ] using h, (HS7.out.set _ _ (by dsimp only; omega) (fun b' off e h0 => by have := HAB.out b' off e h0; dsimp only; omega)).mono (by omega), set_grown HG7.out (by dsimp only; omega), blk_setF R7.out (by omega)⟩
    · have q0 : (k == 0) = false := beq_eq_false_iff_ne.mpr k0
      by_cases k1 : k = 1
      · subst k1
        go_wp2_with fail
        refine (amongW b A n c (M + 26) cs [0, 1, 6, 7] 4 _ HS5.out hn (by omega) rfl (by omega) (by omega)).mono ?_
        rintro e w7 ⟨v, rfl, -, S7, g7⟩
        have HS7 := Lib.hid S7
        have HG7 := Lib.hid (grown_tr HG5.out g7)
        have R7 := Lib.hid (blk_over R5.out g7 (by intro e; injection e with e; omega))
        have X7 := Lib.hid (blk_over X5.out g7 (by intro e; injection e with e; omega))
        have hz7 := g7.size
        clear S7 g7 x0 x1 x2 x3 x4 x5 x6 x7 x8 y0 y1 y2 y3 y4 y5 y6 y7 y8
        obtain ⟨⟨x0, x1, x2, x3, x4, x5, x6, x7, x8⟩, ⟨y0, y1, y2, y3, y4, y5, y6, y7, y8⟩, hxl⟩ := blk9 X7.out
        go_wp2_with fail
        go_meet
        exact ⟨rfl, _, _, _, _, _, _, _, _, _, by have h := X7.out.set 1 (.int .i64 v); simpa only [List.setIfInBounds_toArray, List.set_cons_zero, List.set_cons_succ] using h, (HS7.out.set _ _ (by dsimp only; omega) (fun b' off e h0 => by have := HAB.out b' off e h0; dsimp only; omega)).mono (by omega), set_grown HG7.out (by dsimp only; omega), blk_setF R7.out (by omega)⟩
      · have q1 : (k == 1) = false := beq_eq_false_iff_ne.mpr k1
        by_cases k2 : k = 2
        · subst k2
          go_wp2_with fail
          refine (amongW b A n c (M + 26) cs [-1, 4, 0, 3] 4 _ HS5.out hn (by omega) rfl (by omega) (by omega)).mono ?_
          rintro e w7 ⟨v, rfl, -, S7, g7⟩
          have HS7 := Lib.hid S7
          have HG7 := Lib.hid (grown_tr HG5.out g7)
          have R7 := Lib.hid (blk_over R5.out g7 (by intro e; injection e with e; omega))
          have X7 := Lib.hid (blk_over X5.out g7 (by intro e; injection e with e; omega))
          have hz7 := g7.size
          clear S7 g7 x0 x1 x2 x3 x4 x5 x6 x7 x8 y0 y1 y2 y3 y4 y5 y6 y7 y8
          obtain ⟨⟨x0, x1, x2, x3, x4, x5, x6, x7, x8⟩, ⟨y0, y1, y2, y3, y4, y5, y6, y7, y8⟩, hxl⟩ := blk9 X7.out
          go_wp2_with fail
          go_meet
          exact ⟨rfl, _, _, _, _, _, _, _, _, _, by have h := X7.out.set 7 (.int .i64 v); simpa only [List.setIfInBounds_toArray, List.set_cons_zero, List.set_cons_succ] using h, (HS7.out.set _ _ (by dsimp only; omega) (fun b' off e h0 => by have := HAB.out b' off e h0; dsimp only; omega)).mono (by omega), set_grown HG7.out (by dsimp only; omega), blk_setF R7.out (by omega)⟩
        · have q2 : (k == 2) = false := beq_eq_false_iff_ne.mpr k2
          by_cases k3 : k = 3
          · subst k3
            go_wp2_with fail
            refine (amongW b A n c (M + 26) cs [-1, 3, 2] 3 _ HS5.out hn (by omega) rfl (by omega) (by omega)).mono ?_
            rintro e w7 ⟨v, rfl, -, S7, g7⟩
            have HS7 := Lib.hid S7
            have HG7 := Lib.hid (grown_tr HG5.out g7)
            have R7 := Lib.hid (blk_over R5.out g7 (by intro e; injection e with e; omega))
            have X7 := Lib.hid (blk_over X5.out g7 (by intro e; injection e with e; omega))
            have hz7 := g7.size
            clear S7 g7 x0 x1 x2 x3 x4 x5 x6 x7 x8 y0 y1 y2 y3 y4 y5 y6 y7 y8
            obtain ⟨⟨x0, x1, x2, x3, x4, x5, x6, x7, x8⟩, ⟨y0, y1, y2, y3, y4, y5, y6, y7, y8⟩, hxl⟩ := blk9 X7.out
            go_wp2_with fail
            go_meet
            exact ⟨rfl, _, _, _, _, _, _, _, _, _, by have h := X7.out.set 8 (.int .i64 v); simpa only [List.setIfInBounds_toArray, List.set_cons_zero, List.set_cons_succ] using h, (HS7.out.set _ _ (by dsimp only; omega) (fun b' off e h0 => by have := HAB.out b' off e h0; dsimp only; omega)).mono (by omega), set_grown HG7.out (by dsimp only; omega), blk_setF R7.out (by omega)⟩
          · have q3 : (k == 3) = false := beq_eq_false_iff_ne.mpr k3
            by_cases k4 : k = 4
            · subst k4
              go_wp2_with fail
              refine (one_any b A n c (M + 26) cs 2 _ (HS5.out.set _ _ (by dsimp only; omega) (fun b' off e h0 => by have := HAB.out b' off e h0; dsimp only; omega)) hn (by omega) (by omega)).mono ?_
              rintro e w7 ⟨v, rfl, S7, g7⟩
              have X5 : Hid (Blk (w5.setCell ⟨w3.heap.size, 6, none⟩ (.bool true)) w3.heap.size 25 #[.int .i64 p, .int .i64 s, .bool st, .bool sk, .bool re, .bool fe, .bool true, .int .i64 ca, .int .i64 sl]) := by have h := X5.out.set 6 (.bool true); unfold Hid; simpa only [List.setIfInBounds_toArray, List.set_cons_zero, List.set_cons_succ] using h
              have R5 := Lib.hid (blk_setF (o := 6) (u := .bool true) R5.out (show w.heap.size ≠ w3.heap.size by omega))
              have HG5 : Hid (w.grownBy (w5.setCell ⟨w3.heap.size, 6, none⟩ (.bool true)) (some b)) := set_grown HG5.out (by dsimp only; omega)
              have hzs : (w5.setCell ⟨w3.heap.size, 6, none⟩ (.bool true)).heap.size = w5.heap.size := by simp
              have HS7 := Lib.hid S7
              have HG7 := Lib.hid (grown_tr HG5.out g7)
              have R7 := Lib.hid (blk_over R5.out g7 (by intro e; injection e with e; omega))
              have X7 := Lib.hid (blk_over X5.out g7 (by intro e; injection e with e; omega))
              have hz7 := g7.size
              clear S7 g7 x0 x1 x2 x3 x4 x5 x6 x7 x8 y0 y1 y2 y3 y4 y5 y6 y7 y8
              obtain ⟨⟨x0, x1, x2, x3, x4, x5, x6, x7, x8⟩, ⟨y0, y1, y2, y3, y4, y5, y6, y7, y8⟩, hxl⟩ := blk9 X7.out
              go_wp2_with fail
              go_meet
              exact ⟨rfl, _, _, _, _, _, _, _, _, _, by have h := X7.out.set 2 (.bool v); simpa only [List.setIfInBounds_toArray, List.set_cons_zero, List.set_cons_succ] using h, (HS7.out.set _ _ (by dsimp only; omega) (fun b' off e h0 => by have := HAB.out b' off e h0; dsimp only; omega)).mono (by omega), set_grown HG7.out (by dsimp only; omega), blk_setF R7.out (by omega)⟩
            · have q4 : (k == 4) = false := beq_eq_false_iff_ne.mpr k4
              go_wp2_with fail
              go_meet
              exact ⟨rfl, p, s, st, sk, re, fe, ag, ca, sl, X5.out, HS5.out.mono (by omega), HG5.out, R5.out⟩
  case rest =>
  obtain ⟨rfl, p, s, st, sk, re, fe, ag, ca, sl, X6, S6, G6, R6⟩ := hcut
  rename World => w6
  have X6 := Lib.hid X6
  have HS6 := Lib.hid S6
  have HG6 := Lib.hid G6
  have R6 := Lib.hid R6
  clear S6 G6 HS5 HG5 R5 X5
  obtain ⟨⟨x0, x1, x2, x3, x4, x5, x6, x7, x8⟩, _, hxl⟩ := blk9 X6.out
  obtain ⟨⟨r0, r1, r2, r3, r4, r5, r6, r7, r8⟩, ⟨f0, f1, f2, f3, f4, f5, f6, f7, f8⟩, hrl⟩ := blk9 R6.out
  go_wp2_with fail
  (try simp only [Exit.inBlock, Exit.then])
  refine bodyPost_ret (by simp [results, Try.results25, go_sem, r0, r1, r2, r3, r4, r5, r6, r7, r8, f0, f1, f2, f3, f4, f5, f6, f7, f8]; try rfl) rfl ?_
  refine ⟨p, s, st, sk, re, fe, ag, ca, sl, rfl, ?_, ?_⟩
  · (repeat (first | (with_reducible refine Src.set ?_ _ _ (by dsimp only; omega) (fun b' off e h0 => by have := HAB.out b' off e h0; dsimp only; omega)) | (with_reducible refine src_drF ?_))); exact HS6.out.mono (by omega)
  · (repeat (first | (with_reducible refine set_grown ?_ (by dsimp only; omega)) | (with_reducible refine grown_drF ?_))); exact HG6.out
end Go.Proofs.Ytcfbihponecblaa
