/- FnTimes: clocks are drawn. Conditions: at most 2^20 bytes. -/
import Derived.Test.YtbepfonpfnllkaaDoorG10
import Derived.Test.YtbepfonpfnllkaaDoorG16
import Derived.Test.YtbepfonpfnllkaaDoorG17
import Derived.Deep.DeepCutAuto
namespace Go.Proofs.YtbepfonpfnllkaaDoor
set_option linter.unusedSimpArgs false
set_option linter.unusedVariables false
open Go.RowKit Go.WideShapes Go.ChangeShapes

/-- A box holds some clock with times of two players of one's own (blocks from B on, none of them the source's). -/
def CkB (t t64 : TypeId) (B b q : Nat) (w : World) : Prop :=
  ∃ (A : Option Addr) (g cp : Nat) (zs : List Int) (inc del pl si : Int) (ru fa : Bool), Blk w q t #[.slice A 2 cp, .int .i64 inc, .int .i64 del, .int .i64 pl, .int .i64 si, .bool ru, .bool fa] ∧ B ≤ g ∧ g ≠ b ∧ g ≠ q ∧ 2 ≤ cp ∧ OwnV w g t64 1 A 2 (zs.map (Value.int .i64))
theorem CkB.later {t t64 : TypeId} {B b q : Nat} {w w' : World} (h : CkB t t64 B b q w) (hb : Below w.heap.size w w') : CkB t t64 B b q w' := by
  obtain ⟨A, g, cp, zs, inc, del, pl, si, ru, fa, hB, h1, h2, h3, h4, ho⟩ := h
  exact ⟨A, g, cp, zs, inc, del, pl, si, ru, fa, hB.later hb, h1, h2, h3, h4, ho.later hb⟩
theorem CkB.draw {t t64 : TypeId} {B b q : Nat} {w w' : World} (h : CkB t t64 B b q w) (hg : w.grownBy w' (some b)) (hq : q ≠ b) : CkB t t64 B b q w' := by
  obtain ⟨A, g, cp, zs, inc, del, pl, si, ru, fa, hB, h1, h2, h3, h4, ho⟩ := h
  exact ⟨A, g, cp, zs, inc, del, pl, si, ru, fa, blk_over hB hg (by intro e; injection e with e; exact hq e.symm), h1, h2, h3, h4, ho.apart hg (fun _ => h2)⟩
theorem vC_new {l i d : Int} (h1 : 1000 ≤ l) (h2 : l ≤ 61000) (h3 : 0 ≤ i) (h4 : i ≤ 36000000) (h5 : 0 ≤ d) (h6 : d ≤ 36000000) : vC [l, l] i d 0 0 false false = true := by
  rw [vC_two]
  have e1 : tB l = true := inB_t (by omega) (by omega)
  have e2 : tB i = true := inB_t h3 h4
  have e3 : tB d = true := inB_t h5 h6
  have e4 : tB 0 = true := by decide
  have e5 : inB 0 0 1 = true := by decide
  have e6 : decide (0 < l) = true := decide_eq_true (by omega)
  rw [e1, e2, e3, e4, e5, e6]
  rfl
theorem ncR_new {l i d : Int} (h1 : 1000 ≤ l) (h2 : l ≤ 61000) (h3 : 0 ≤ i) (h4 : i ≤ 36000000) (h5 : 0 ≤ d) (h6 : d ≤ 36000000) : ncR l i d = ([l, l], i, d, 0) := by
  rw [ncR, inB_t (by omega) (by omega), show tB i = true from inB_t h3 h4, show tB d = true from inB_t h5 h6]
  rfl
section
variable {w a : World} {q b : Nat} {t t64 : TypeId} {v0 v1 v2 v3 v4 v5 v6 : Value}
theorem st7_blk {a0 a1 a2 a3 a4 a5 a6 : Value} (h : Blk w q t #[a0, a1, a2, a3, a4, a5, a6]) : Blk (((((((w.setCell ⟨q, 0, none⟩ v0).setCell ⟨q, 1, none⟩ v1).setCell ⟨q, 2, none⟩ v2).setCell ⟨q, 3, none⟩ v3).setCell ⟨q, 4, none⟩ v4).setCell ⟨q, 5, none⟩ v5).setCell ⟨q, 6, none⟩ v6) q t #[v0, v1, v2, v3, v4, v5, v6] := by
  have h0 : Blk (w.setCell ⟨q, 0, none⟩ v0) q t #[v0, a1, a2, a3, a4, a5, a6] := by have x := h.set 0 v0; simpa only [List.setIfInBounds_toArray, List.set_cons_zero, List.set_cons_succ] using x
  have h1 : Blk ((w.setCell ⟨q, 0, none⟩ v0).setCell ⟨q, 1, none⟩ v1) q t #[v0, v1, a2, a3, a4, a5, a6] := by have x := h0.set 1 v1; simpa only [List.setIfInBounds_toArray, List.set_cons_zero, List.set_cons_succ] using x
  have h2 : Blk (((w.setCell ⟨q, 0, none⟩ v0).setCell ⟨q, 1, none⟩ v1).setCell ⟨q, 2, none⟩ v2) q t #[v0, v1, v2, a3, a4, a5, a6] := by have x := h1.set 2 v2; simpa only [List.setIfInBounds_toArray, List.set_cons_zero, List.set_cons_succ] using x
  have h3 : Blk ((((w.setCell ⟨q, 0, none⟩ v0).setCell ⟨q, 1, none⟩ v1).setCell ⟨q, 2, none⟩ v2).setCell ⟨q, 3, none⟩ v3) q t #[v0, v1, v2, v3, a4, a5, a6] := by have x := h2.set 3 v3; simpa only [List.setIfInBounds_toArray, List.set_cons_zero, List.set_cons_succ] using x
  have h4 : Blk (((((w.setCell ⟨q, 0, none⟩ v0).setCell ⟨q, 1, none⟩ v1).setCell ⟨q, 2, none⟩ v2).setCell ⟨q, 3, none⟩ v3).setCell ⟨q, 4, none⟩ v4) q t #[v0, v1, v2, v3, v4, a5, a6] := by have x := h3.set 4 v4; simpa only [List.setIfInBounds_toArray, List.set_cons_zero, List.set_cons_succ] using x
  have h5 : Blk ((((((w.setCell ⟨q, 0, none⟩ v0).setCell ⟨q, 1, none⟩ v1).setCell ⟨q, 2, none⟩ v2).setCell ⟨q, 3, none⟩ v3).setCell ⟨q, 4, none⟩ v4).setCell ⟨q, 5, none⟩ v5) q t #[v0, v1, v2, v3, v4, v5, a6] := by have x := h4.set 5 v5; simpa only [List.setIfInBounds_toArray, List.set_cons_zero, List.set_cons_succ] using x
  have h6 : Blk (((((((w.setCell ⟨q, 0, none⟩ v0).setCell ⟨q, 1, none⟩ v1).setCell ⟨q, 2, none⟩ v2).setCell ⟨q, 3, none⟩ v3).setCell ⟨q, 4, none⟩ v4).setCell ⟨q, 5, none⟩ v5).setCell ⟨q, 6, none⟩ v6) q t #[v0, v1, v2, v3, v4, v5, v6] := by have x := h5.set 6 v6; simpa only [List.setIfInBounds_toArray, List.set_cons_zero, List.set_cons_succ] using x
  exact h6
theorem st7_other {r : Nat} {t' : TypeId} {cs : Array Value} (h : Blk w r t' cs) (hne : r ≠ q) : Blk (((((((w.setCell ⟨q, 0, none⟩ v0).setCell ⟨q, 1, none⟩ v1).setCell ⟨q, 2, none⟩ v2).setCell ⟨q, 3, none⟩ v3).setCell ⟨q, 4, none⟩ v4).setCell ⟨q, 5, none⟩ v5).setCell ⟨q, 6, none⟩ v6) r t' cs := by
  repeat (refine blk_setF ?_ hne)
  exact h
theorem st7_own {A : Option Addr} {g n : Nat} {vs : List Value} (h : OwnV w g t64 1 A n vs) (hne : g ≠ q) : OwnV (((((((w.setCell ⟨q, 0, none⟩ v0).setCell ⟨q, 1, none⟩ v1).setCell ⟨q, 2, none⟩ v2).setCell ⟨q, 3, none⟩ v3).setCell ⟨q, 4, none⟩ v4).setCell ⟨q, 5, none⟩ v5).setCell ⟨q, 6, none⟩ v6) g t64 1 A n vs := by
  repeat (refine own_setF ?_ hne)
  exact h
theorem st7_src {A : Option Addr} {n c M : Nat} {cs : List Int} (h : Src w b A n c M cs) (hne : q ≠ b) (hA : ∀ b' off, A = some ⟨b', off, none⟩ → 0 < n → b' ≠ q) : Src (((((((w.setCell ⟨q, 0, none⟩ v0).setCell ⟨q, 1, none⟩ v1).setCell ⟨q, 2, none⟩ v2).setCell ⟨q, 3, none⟩ v3).setCell ⟨q, 4, none⟩ v4).setCell ⟨q, 5, none⟩ v5).setCell ⟨q, 6, none⟩ v6) b A n c M cs := by
  repeat (refine Src.set ?_ _ _ hne hA)
  exact h
theorem set_grown {w : World} {p : Addr} {u : Value} (h : a.grownBy w (some b)) (hq : a.heap.size ≤ p.block) : a.grownBy (w.setCell p u) (some b) :=
  ⟨h.os, h.tape, h.output, Nat.le_trans h.size (sizeSet _ _ _), fun k hk hne => (Below.heap_setCell w p u k (by omega)).trans (h.block k hk hne)⟩
theorem st7_grown (h : a.grownBy w (some b)) (hq : a.heap.size ≤ q) : a.grownBy (((((((w.setCell ⟨q, 0, none⟩ v0).setCell ⟨q, 1, none⟩ v1).setCell ⟨q, 2, none⟩ v2).setCell ⟨q, 3, none⟩ v3).setCell ⟨q, 4, none⟩ v4).setCell ⟨q, 5, none⟩ v5).setCell ⟨q, 6, none⟩ v6) (some b) := by
  repeat (refine set_grown ?_ hq)
  exact h
end
set_option maxHeartbeats 1000000 in
theorem sNewClock_ok (l i d : Int) (q1 : inB l 1 36000000 = true) (q2 : tB i = true) (q3 : tB d = true) (w : World) :
    Calls Tryd.prog 12 #[.int .i64 l, .int .i64 i, .int .i64 d] w fun e w' => ∃ g, e = .returned (.tuple #[.agg #[.slice (some ⟨g, 0, none⟩) 2 2, .int .i64 i, .int .i64 d, .int .i64 0, .int .i64 0, .bool false, .bool false], .int .i64 0]) ∧ w.heap.size ≤ g ∧ OwnV w' g 2 1 (some ⟨g, 0, none⟩) 2 ([l, l].map (Value.int .i64)) ∧ Below w.heap.size w w' := by
  go_enter Tryd.func12, Tryd.ntmps12
  go_wp2_with (first | (go_at_call 32; refine (l00In_any _ _ _ _).mono ?_; rintro e w_ ⟨rfl, rfl⟩) | (go_at_call 30; refine (l23Time_any _ _).mono ?_; rintro e w_ ⟨rfl, rfl⟩))
  go_returns
  exact ⟨w.heap.size + 1, rfl, by omega, ⟨rfl, fun _ => ⟨rfl, [], by simpa using (Blk.new' (by simp))⟩⟩, by (repeat' (first | (with_reducible exact Below.refl _ _) | (with_reducible assumption) | (with_reducible refine Below.alloc ?_ ?_ _) | (with_reducible refine Below.drew ?_) | (with_reducible refine belowDrewN ?_ _) | (with_reducible refine Below.setCell ?_ ?_ _) | (with_reducible refine Below.via (by with_reducible assumption) ?_ ?_) | (with_reducible refine Below.viaD (by with_reducible assumption) ?_ ?_) | (with_reducible exact Below.size (by with_reducible assumption)) | go_size | (with_reducible refine Nat.le_trans ?_ (Below.size (by with_reducible assumption))) | (with_reducible refine Nat.le_trans ?_ (sizeAlloc _ _)) | (with_reducible refine Nat.le_trans ?_ (sizeSet _ _ _)) | (with_reducible refine Nat.le_trans ?_ (sizeDrew _))))⟩
theorem grown_far {a w w' : World} {b : Nat} (h : a.grownBy w (some b)) (hb : Below w.heap.size w w') : a.grownBy w' (some b) :=
  ⟨hb.os.trans h.os, hb.tape.trans h.tape, hb.output.trans h.output, Nat.le_trans h.size hb.size, fun k hk hne => (hb.block k (Nat.lt_of_lt_of_le hk h.size)).trans (h.block k hk hne)⟩
set_option maxRecDepth 20000 in
set_option maxHeartbeats 4000000 in
theorem l23Draw_any (b : Nat) (A : Option Addr) (n c M : Nat) (cs : List Int) (w : World) (h : Src w b A n c M cs) (hn : n ≤ 1048576) (hM : M ≤ 999999000) :
    Calls Tryd.prog 42 #[.pointer (some ⟨b, 0, none⟩)] w fun e w' => ∃ (A' : Option Addr) (g cp : Nat) (zs : List Int) (inc del pl si : Int) (ru fa : Bool), e = .returned (.agg #[.slice A' 2 cp, .int .i64 inc, .int .i64 del, .int .i64 pl, .int .i64 si, .bool ru, .bool fa]) ∧ w.heap.size ≤ g ∧ 2 ≤ cp ∧ OwnV w' g 2 1 A' 2 (zs.map (Value.int .i64)) ∧ Src w' b A n c (M + 100) cs ∧ w.grownBy w' (some b) := by
  have hbl := h.lt
  have HAB := Lib.hid h.aBelow
  have R0 := Lib.hid (Blk.new w 33 #[.slice none 0 0, .int .i64 0, .int .i64 0, .int .i64 0, .int .i64 0, .bool false, .bool false])
  have HS0 := Lib.hid (h.later (Below.alloc (Below.refl _ _) (Nat.le_refl _) (.cells #[.slice none 0 0, .int .i64 0, .int .i64 0, .int .i64 0, .int .i64 0, .bool false, .bool false] 33)))
  have HG0 : Hid (w.grownBy (w.alloc (.cells #[.slice none 0 0, .int .i64 0, .int .i64 0, .int .i64 0, .int .i64 0, .bool false, .bool false] 33)) (some b)) := grown_alloc (World.grownBy.refl _ _) _
  clear h
  go_enter Tryd.func42, Tryd.ntmps42
  go_wp2_with fail
  refine (pick_any b A n c M cs 60000 _ HS0.out hn (by omega) (by omega)).mono ?_
  rintro e w1 ⟨x, rfl, x0, x1, -, S1, g1⟩
  have hx := x1 (by omega)
  have HS1 := Lib.hid S1
  have HG1 := Lib.hid (grown_tr HG0.out g1)
  have R1 := Lib.hid (blk_over R0.out g1 (by intro e; injection e with e; omega))
  clear S1 g1 x1 HG0 R0 HS0
  go_wp2_with fail
  refine (pick_any b A n c (M + 2) cs 5 _ HS1.out hn (by omega) (by omega)).mono ?_
  rintro e w2 ⟨y, rfl, y0, y1, -, S2, g2⟩
  have hy := y1 (by omega)
  have HS2 := Lib.hid S2
  have HG2 := Lib.hid (grown_tr HG1.out g2)
  have R2 := Lib.hid (blk_over R1.out g2 (by intro e; injection e with e; omega))
  clear S2 g2 y1 HG1 R1 HS1
  go_wp2_with fail
  refine (pick_any b A n c (M + 4) cs 3 _ HS2.out hn (by omega) (by omega)).mono ?_
  rintro e w3 ⟨z, rfl, z0, z1, -, S3, g3⟩
  have hz := z1 (by omega)
  have HS3 := Lib.hid S3
  have HG3 := Lib.hid (grown_tr HG2.out g3)
  have R3 := Lib.hid (blk_over R2.out g3 (by intro e; injection e with e; omega))
  clear S3 g3 z1 HG2 R2 HS2
  go_wp2_with fail
  refine (sNewClock_ok (1000 + x) (y * 500) (z * 700) (inB_t (by omega) (by omega)) (inB_t (by omega) (by omega)) (inB_t (by omega) (by omega)) _).mono ?_
  rintro e w4 ⟨g, rfl, hg, ho4, hb4⟩
  go_upto_region 2 with fail
  have S4 := HS3.out.later hb4
  have G4 : Hid (w.grownBy w4 (some b)) := grown_far HG3.out hb4
  have R4 := R3.out.later hb4
  have hz4 : w.heap.size < w4.heap.size := R4.lt
  have N5 : Hid (Below w4.heap.size w4 (w4.alloc (.cells #[.slice (some ⟨g, 0, none⟩) 2 2, .int .i64 (y * 500), .int .i64 (z * 700), .int .i64 0, .int .i64 0, .bool false, .bool false] 33))) := Below.alloc (Below.refl _ _) (Nat.le_refl _) _
  have X5 := Lib.hid (Blk.new w4 33 #[.slice (some ⟨g, 0, none⟩) 2 2, .int .i64 (y * 500), .int .i64 (z * 700), .int .i64 0, .int .i64 0, .bool false, .bool false])
  have HS5 := Lib.hid (S4.later N5.out)
  have HG5 : Hid (w.grownBy (w4.alloc (.cells #[.slice (some ⟨g, 0, none⟩) 2 2, .int .i64 (y * 500), .int .i64 (z * 700), .int .i64 0, .int .i64 0, .bool false, .bool false] 33)) (some b)) := grown_alloc G4.out _
  have R5 := Lib.hid (R4.later N5.out)
  have O5 := Lib.hid (ho4.later N5.out)
  have hgl := ho4.lt (by omega)
  have hgb : g ≠ b := by have := HG3.out.size; omega
  have hwg : w.heap.size + 1 ≤ g := by have := R3.out.lt; omega
  have hvc := vC_new (l := 1000 + x) (i := y * 500) (d := z * 700) (by omega) (by omega) (by omega) (by omega) (by omega) (by omega)
  have HVC := Lib.hid hvc
  clear S4 G4 R4 ho4 hb4 HS3 HG3 R3 hvc
  obtain ⟨w5, hw5⟩ : ∃ w5, w5 = w4.alloc (.cells #[.slice (some ⟨g, 0, none⟩) 2 2, .int .i64 (y * 500), .int .i64 (z * 700), .int .i64 0, .int .i64 0, .bool false, .bool false] 33) := ⟨_, rfl⟩
  rw [← hw5]
  rw [← hw5] at X5 HS5 HG5 R5 O5
  clear hw5 N5
  obtain ⟨L, hL⟩ : ∃ L, 1000 + x = L := ⟨_, rfl⟩
  obtain ⟨I, hI⟩ : ∃ I, y * 500 = I := ⟨_, rfl⟩
  obtain ⟨D, hD⟩ : ∃ D, z * 700 = D := ⟨_, rfl⟩
  rw [hL] at O5 HVC
  rw [hI, hD] at HVC X5
  clear hL hI hD x0 y0 z0 hx hy hz
  go_wp2_with fail
  refine (pick_any b A n c (M + 6) cs 100 _ HS5.out hn (by omega) (by omega)).mono ?_
  rintro e w6 ⟨now, rfl, t0, t1, -, S6, g6⟩
  have ht := t1 (by omega)
  have HS6 := Lib.hid S6
  have HG6 := Lib.hid (grown_tr HG5.out g6)
  have R6 := Lib.hid (blk_over R5.out g6 (by intro e; injection e with e; omega))
  have X6 := Lib.hid (blk_over X5.out g6 (by intro e; injection e with e; omega))
  have O6 := Lib.hid (O5.out.apart g6 (fun _ => hgb))
  clear S6 g6 t1 HS5 HG5 R5 X5 O5
  go_wp2_with fail
  refine (one_any b A n c (M + 8) cs 5 _ HS6.out hn (by omega) (by omega)).mono ?_
  rintro e w7 ⟨q, rfl, S7, g7⟩
  have HS7 := Lib.hid S7
  have HG7 := Lib.hid (grown_tr HG6.out g7)
  have R7 := Lib.hid (blk_over R6.out g7 (by intro e; injection e with e; omega))
  have X7 := Lib.hid (blk_over X6.out g7 (by intro e; injection e with e; omega))
  have O7 := Lib.hid (O6.out.apart g7 (fun _ => hgb))
  clear S7 g7 HS6 HG6 R6 X6 O6
  go_upto_if 26 with fail
  go_cut [5] (fun s5 wx => s5 = .int .i64 now ∧ CkB 33 2 (w.heap.size + 1) b w4.heap.size wx ∧ Src wx b A n c (M + 10) cs ∧ w.grownBy wx (some b) ∧ Blk wx w.heap.size 33 #[.slice none 0 0, .int .i64 0, .int .i64 0, .int .i64 0, .int .i64 0, .bool false, .bool false])
  case first =>
    cases q
    case true =>
      go_wp2_with fail
      go_meet
      exact ⟨rfl, ⟨_, g, 2, [L, L], I, D, 0, 0, false, false, X7.out, hwg, hgb, by omega, Nat.le_refl _, O7.out⟩, HS7.out, HG7.out, R7.out⟩
    case false =>
      have hx7 := X7.out.lt
      obtain ⟨⟨c0, c1, c2, c3, c4, c5, c6⟩, ⟨d0, d1, d2, d3, d4, d5, d6⟩, _⟩ := blk7 X7.out
      go_wp2_with fail
      refine (StartClock_ok _ 2 2 [L, L] I D 0 0 now _ O7.out.sl (by omega) HVC.out t0 (by omega)).mono ?_
      rintro e w8 ⟨A8, g8, cp8, zs8, inc8, del8, pl8, si8, ru8, fa8, rfl, hg8, hcp8, ho8, hb8⟩
      have hz78 := hb8.size
      have X8 := Lib.hid (X7.out.later hb8)
      have R8 := Lib.hid (R7.out.later hb8)
      have HS8 := Lib.hid (HS7.out.later hb8)
      have HG8 := Lib.hid (grown_far HG7.out hb8)
      have O8 := Lib.hid ho8
      clear ho8 hb8 c0 c1 c2 c3 c4 c5 c6 d0 d1 d2 d3 d4 d5 d6
      obtain ⟨⟨c0, c1, c2, c3, c4, c5, c6⟩, ⟨d0, d1, d2, d3, d4, d5, d6⟩, _⟩ := blk7 X8.out
      go_wp2_with fail
      go_meet
      exact ⟨rfl, ⟨_, g8, cp8, zs8, inc8, del8, pl8, si8, ru8, fa8, st7_blk X8.out, by have := R7.out.lt; omega, by have := HS7.out.lt; omega, by omega, hcp8, st7_own O8.out (by omega)⟩, st7_src HS8.out (by omega) (fun b' off e h0 => by have := HAB.out b' off e h0; omega), st7_grown HG8.out (by omega), st7_other R8.out (by omega)⟩
  case rest =>
  obtain ⟨rfl, C9, S9, G9, R9⟩ := hcut
  rename World => w9
  have HC9 := Lib.hid C9
  have HS9 := Lib.hid S9
  have HG9 := Lib.hid G9
  have HR9 := Lib.hid R9
  clear C9 S9 G9 R9 HS7 HG7 R7 X7 O7 HVC
  go_wp2_with fail
  refine (pick_any b A n c (M + 10) cs 6 _ HS9.out hn (by omega) (by omega)).mono ?_
  rintro e wa ⟨kk, rfl, k0, k1, -, Sa, ga⟩
  have hkk := k1 (by omega)
  obtain ⟨K, rfl⟩ := Int.eq_ofNat_of_zero_le k0
  have HSa := Lib.hid Sa
  have HGa := Lib.hid (grown_tr HG9.out ga)
  have HRa := Lib.hid (blk_over HR9.out ga (by intro e; injection e with e; omega))
  have HCa := Lib.hid (HC9.out.draw ga (by omega))
  clear Sa ga k1 HS9 HG9 HR9 HC9
  go_wp2_with fail
  go_loopw [5, 6] (fun v5 v6 wr => ∃ (k : Nat) (nw : Int), v5 = .int .i64 nw ∧ v6 = .int .i64 k ∧ k ≤ K ∧ CkB 33 2 (w.heap.size + 1) b w4.heap.size wr ∧ Src wr b A n c (M + 12 + 4 * (K - k)) cs ∧ w.grownBy wr (some b) ∧ Blk wr w.heap.size 33 #[.slice none 0 0, .int .i64 0, .int .i64 0, .int .i64 0, .int .i64 0, .bool false, .bool false]) (fun _ v6 _ => (intOf v6).toNat)
  case atStart => exact ⟨K, now, rfl, rfl, Nat.le_refl _, HCa.out, HSa.out.mono (by omega), HGa.out, HRa.out⟩
  case round =>
    obtain ⟨k, nw, rfl, rfl, hkK, Co, So, Go, Ro⟩ := hrel
    rename World => wo
    have HCo := Lib.hid Co
    have HSo := Lib.hid So
    have HGo := Lib.hid Go
    have HRo := Lib.hid Ro
    clear Co So Go Ro HCa HSa HGa HRa
    by_cases hk : 0 < k
    case neg =>
      obtain rfl : k = 0 := by omega
      obtain ⟨A8, g8, cp8, zs8, inc8, del8, pl8, si8, ru8, fa8, X8, hg8, hgb8, hgq8, hcp8, O8⟩ := HCo.out
      have HX8 := Lib.hid X8
      have HO8 := Lib.hid O8
      clear O8
      obtain ⟨⟨c0, c1, c2, c3, c4, c5, c6⟩, _, hxl⟩ := blk7 X8
      obtain ⟨⟨r0, r1, r2, r3, r4, r5, r6⟩, ⟨f0, f1, f2, f3, f4, f5, f6⟩, hrl⟩ := blk7 HRo.out
      clear X8
      go_wp2_with fail
      (try simp only [Exit.inBlock, Exit.then])
      refine bodyPost_ret (by simp [results, Tryd.results42, go_sem, r0, r1, r2, r3, r4, r5, r6, f0, f1, f2, f3, f4, f5, f6]; try rfl) rfl ?_
      refine ⟨A8, g8, cp8, zs8, inc8, del8, pl8, si8, ru8, fa8, rfl, by omega, hcp8, ?_, ?_, ?_⟩
      · exact st7_own HO8.out (by omega)
      · exact st7_src (HSo.out.mono (by omega)) (by omega) (fun b' off e h0 => by have := HAB.out b' off e h0; omega)
      · exact st7_grown HGo.out (Nat.le_refl _)
    case pos =>
      go_wp2_with fail
      refine (pick_any b A n c (M + 12 + 4 * (K - k)) cs 15000 _ HSo.out hn (by omega) (by omega)).mono ?_
      rintro e wa ⟨d, rfl, -, -, -, Sa, ga⟩
      have HSa := Lib.hid Sa
      have HGa := Lib.hid (grown_tr HGo.out ga)
      have HRa := Lib.hid (blk_over HRo.out ga (by intro e; injection e with e; omega))
      obtain ⟨A8, g8, cp8, zs8, inc8, del8, pl8, si8, ru8, fa8, X8, hg8, hgb8, hgq8, hcp8, O8⟩ := (HCo.out.draw ga (by omega))
      have HX8 := Lib.hid X8
      have HO8 := Lib.hid O8
      have hgl8 := HO8.out.lt (by omega)
      clear O8 Sa ga HSo HGo HRo HCo
      obtain ⟨⟨c0, c1, c2, c3, c4, c5, c6⟩, _, hxl⟩ := blk7 X8
      clear X8
      obtain ⟨nx, hnx⟩ : ∃ nx, IntKind.i64.wrap (nw + d) = nx := ⟨_, rfl⟩
      go_wp2_with fail
      refine (PressClock_any A8 2 cp8 zs8 inc8 del8 pl8 si8 ru8 fa8 nx _ HO8.out.sl (by omega)).mono ?_
      rintro e wb ⟨A9, g9, n9, cp9, zs9, inc9, del9, pl9, si9, ru9, fa9, code, rfl, hn9, hg9, hcp9, O9, hbb⟩
      have HX9 := Lib.hid (HX8.out.later hbb)
      have HS9 := Lib.hid (HSa.out.later hbb)
      have HG9 := Lib.hid (grown_far HGa.out hbb)
      have HR9 := Lib.hid (HRa.out.later hbb)
      have HO9 := Lib.hid (HO8.out.later hbb)
      have HN9 := Lib.hid O9
      have HNN := Lib.hid hn9
      have hzab := hbb.size
      have hga := HX8.out.lt
      clear O9 hn9 hbb HX8 HSa HGa HRa HO8 c0 c1 c2 c3 c4 c5 c6
      go_upto_region 10 with fail
      obtain ⟨wc, hwc⟩ : ∃ wc, wc = wb.alloc (.cells #[.slice A9 n9 cp9, .int .i64 inc9, .int .i64 del9, .int .i64 pl9, .int .i64 si9, .bool ru9, .bool fa9] 33) := ⟨_, rfl⟩
      have NC : Hid (Below wb.heap.size wb wc) := by unfold Hid; rw [hwc]; exact Below.alloc (Below.refl _ _) (Nat.le_refl _) _
      have NX : Hid (Blk wc wb.heap.size 33 #[.slice A9 n9 cp9, .int .i64 inc9, .int .i64 del9, .int .i64 pl9, .int .i64 si9, .bool ru9, .bool fa9]) := by unfold Hid; rw [hwc]; exact Blk.new _ _ _
      rw [← hwc]
      clear hwc
      have HXc := Lib.hid (HX9.out.later NC.out)
      have HSc := Lib.hid (HS9.out.later NC.out)
      have HGc := Lib.hid (grown_far HG9.out NC.out)
      have HRc := Lib.hid (HR9.out.later NC.out)
      have HOc := Lib.hid (HO9.out.later NC.out)
      have HNc := Lib.hid (HN9.out.later NC.out)
      have hzbc := NX.out.lt
      clear HX9 HS9 HG9 HR9 HO9 HN9 NC
      go_wp2_with fail
      refine (one_any b A n c (M + 12 + 4 * (K - k) + 2) cs 6 _ HSc.out hn (by omega) (by omega)).mono ?_
      rintro e wd ⟨q2, rfl, Sd, gd⟩
      have HSd := Lib.hid Sd
      have HGd := Lib.hid (grown_tr HGc.out gd)
      have HRd := Lib.hid (blk_over HRc.out gd (by intro e; injection e with e; omega))
      have HXd := Lib.hid (blk_over HXc.out gd (by intro e; injection e with e; omega))
      have HOd := Lib.hid (HOc.out.apart gd (fun _ => hgb8))
      have HNd := Lib.hid (HNc.out.apart gd (fun _ => by omega))
      have NXd := Lib.hid (blk_over NX.out gd (by intro e; injection e with e; omega))
      have hzcd := gd.size
      have hrw := HRd.out.lt
      clear Sd gd HSc HGc HRc HXc HOc HNc NX
      go_upto_if 50 with fail
      go_cut [8] (fun s8 wx => ∃ (Ay : Option Addr) (g ny cp : Nat) (zs : List Int) (inc del pl si : Int) (ru fa : Bool) (code : Int), s8 = .int .i64 code ∧ (code = 0 → ny = 2) ∧ Blk wx wb.heap.size 33 #[.slice Ay ny cp, .int .i64 inc, .int .i64 del, .int .i64 pl, .int .i64 si, .bool ru, .bool fa] ∧ w.heap.size + 1 ≤ g ∧ g ≠ b ∧ g ≠ w4.heap.size ∧ ny ≤ cp ∧ OwnV wx g 2 1 Ay ny (zs.map (Value.int .i64)) ∧ CkB 33 2 (w.heap.size + 1) b w4.heap.size wx ∧ Src wx b A n c (M + 12 + 4 * (K - k) + 4) cs ∧ w.grownBy wx (some b) ∧ Blk wx w.heap.size 33 #[.slice none 0 0, .int .i64 0, .int .i64 0, .int .i64 0, .int .i64 0, .bool false, .bool false])
      case first =>
        cases q2
        case false =>
          go_wp2_with fail
          go_meet
          exact ⟨A9, g9, n9, cp9, zs9, inc9, del9, pl9, si9, ru9, fa9, code, rfl, HNN.out, NXd.out, by omega, by omega, by omega, hcp9, HNd.out, ⟨A8, g8, cp8, zs8, inc8, del8, pl8, si8, ru8, fa8, HXd.out, hg8, hgb8, hgq8, hcp8, HOd.out⟩, HSd.out, HGd.out, HRd.out⟩
        case true =>
          obtain ⟨⟨c0, c1, c2, c3, c4, c5, c6⟩, _, _⟩ := blk7 HXd.out
          go_wp2_with fail
          refine (StopClock_any A8 2 cp8 zs8 inc8 del8 pl8 si8 ru8 fa8 nx _ HOd.out.sl (by omega)).mono ?_
          rintro e we ⟨A10, g10, n10, cp10, zs10, inc10, del10, pl10, si10, ru10, fa10, code10, rfl, hn10, hg10, hcp10, O10, hbe⟩
          have HXe := Lib.hid (HXd.out.later hbe)
          have HSe := Lib.hid (HSd.out.later hbe)
          have HGe := Lib.hid (grown_far HGd.out hbe)
          have HRe := Lib.hid (HRd.out.later hbe)
          have HOe := Lib.hid (HOd.out.later hbe)
          have NXe := Lib.hid (NXd.out.later hbe)
          have HN10 := Lib.hid O10
          have HNN10 := Lib.hid hn10
          have hzde := hbe.size
          clear O10 hn10 hbe c0 c1 c2 c3 c4 c5 c6 HXd HSd HGd HRd HOd NXd HNd HNN
          obtain ⟨⟨c0, c1, c2, c3, c4, c5, c6⟩, ⟨d0, d1, d2, d3, d4, d5, d6⟩, _⟩ := blk7 NXe.out
          go_wp2_with fail
          go_meet
          exact ⟨A10, g10, n10, cp10, zs10, inc10, del10, pl10, si10, ru10, fa10, code10, rfl, HNN10.out, st7_blk NXe.out, by omega, by omega, by omega, hcp10, st7_own HN10.out (by omega), ⟨A8, g8, cp8, zs8, inc8, del8, pl8, si8, ru8, fa8, st7_other HXe.out (by omega), hg8, hgb8, hgq8, hcp8, st7_own HOe.out (by omega)⟩, st7_src HSe.out (by omega) (fun b' off e h0 => by have := HAB.out b' off e h0; omega), st7_grown HGe.out (by omega), st7_other HRe.out (by omega)⟩
      case rest =>
      obtain ⟨Ax, gx, nx', cpx, zsx, incx, delx, plx, six, rux, fax, codex, rfl, hnx, NXf, hgx, hgbx, hgqx, hcpx, Ox, Cf, Sf, Gf, Rf⟩ := hcut
      rename World => wf
      have NXf := Lib.hid NXf
      have HOx := Lib.hid Ox
      have HCf := Lib.hid Cf
      have HSf := Lib.hid Sf
      have HGf := Lib.hid Gf
      have HRf := Lib.hid Rf
      have HNx := Lib.hid hnx
      clear Ox Cf Sf Gf Rf hnx HXd HSd HGd HRd HOd NXd HNd HNN
      by_cases h0 : codex = 0
      case neg =>
        have hcb : (codex == 0) = false := beq_eq_false_iff_ne.mpr h0
        go_wp2_with fail
        go_roundw
        case rel => exact ⟨k - 1, nx, rfl, by first | rfl | (congr 1; omega), by omega, HCf.out, HSf.out.mono (by omega), HGf.out, HRf.out⟩
        case measure => first | (simp [intOf]; done) | (simp [intOf]; omega)
      case pos =>
        subst h0
        obtain rfl : nx' = 2 := HNx.out rfl
        obtain ⟨A8, g8, cp8, zs8, inc8, del8, pl8, si8, ru8, fa8, X8, hg8, hgb8, hgq8, hcp8, O8⟩ := HCf.out
        have HX8 := Lib.hid X8
        clear X8 O8
        obtain ⟨⟨c0, c1, c2, c3, c4, c5, c6⟩, ⟨d0, d1, d2, d3, d4, d5, d6⟩, _⟩ := blk7 HX8.out
        obtain ⟨⟨x0, x1, x2, x3, x4, x5, x6⟩, _, hnl⟩ := blk7 NXf.out
        go_wp2_with fail
        go_roundw
        case rel => exact ⟨k - 1, nx, rfl, by first | rfl | (congr 1; omega), by omega, ⟨Ax, gx, cpx, zsx, incx, delx, plx, six, rux, fax, st7_blk HX8.out, hgx, hgbx, hgqx, hcpx, st7_own HOx.out hgqx⟩, (st7_src HSf.out (by omega) (fun b' off e h0 => by have := HAB.out b' off e h0; omega)).mono (by omega), st7_grown HGf.out (by omega), st7_other HRf.out (by omega)⟩
        case measure => first | (simp [intOf]; done) | (simp [intOf]; omega)
end Go.Proofs.YtbepfonpfnllkaaDoor
