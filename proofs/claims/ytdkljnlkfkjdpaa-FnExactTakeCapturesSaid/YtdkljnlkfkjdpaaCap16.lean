/- Captures: the seeds behind the captures, by the reference. Conditions: lengths below 2^20. -/
import Derived.Test.YtdkljnlkfkjdpaaCap15
namespace Go.Proofs.Ytdkljnlkfkjdpaa
set_option linter.unusedSimpArgs false
set_option linter.unusedVariables false
open Go.RowKit

theorem sw_keep {wb W W' : World} {b2 o2 : Nat} {v0 v1 v2 v3 : Value} (hb : Below W.heap.size W W') (h : ((W.cell? ⟨b2, o2, none⟩ = some v0 ∧ W.cell? ⟨b2, o2 + 1, none⟩ = some v1) ∧ (W.cell? ⟨b2, o2 + 2, none⟩ = some v2 ∧ W.cell? ⟨b2, o2 + 3, none⟩ = some v3)) ∧ Below wb.heap.size wb W) : ((W'.cell? ⟨b2, o2, none⟩ = some v0 ∧ W'.cell? ⟨b2, o2 + 1, none⟩ = some v1) ∧ (W'.cell? ⟨b2, o2 + 2, none⟩ = some v2 ∧ W'.cell? ⟨b2, o2 + 3, none⟩ = some v3)) ∧ Below wb.heap.size wb W' := by
  obtain ⟨⟨⟨a0, a1⟩, ⟨a2, a3⟩⟩, hB⟩ := h
  have l0 := cell_lt a0
  exact ⟨⟨⟨(hb.cell (p := ⟨_, _, none⟩) l0).trans a0, (hb.cell (p := ⟨_, _, none⟩) l0).trans a1⟩, ⟨(hb.cell (p := ⟨_, _, none⟩) l0).trans a2, (hb.cell (p := ⟨_, _, none⟩) l0).trans a3⟩⟩, Below.via hb hB hB.size⟩
theorem sw_drew {wb W : World} {b2 o2 : Nat} {v0 v1 v2 v3 : Value} (h : ((W.cell? ⟨b2, o2, none⟩ = some v0 ∧ W.cell? ⟨b2, o2 + 1, none⟩ = some v1) ∧ (W.cell? ⟨b2, o2 + 2, none⟩ = some v2 ∧ W.cell? ⟨b2, o2 + 3, none⟩ = some v3)) ∧ Below wb.heap.size wb W) : ((W.drew.cell? ⟨b2, o2, none⟩ = some v0 ∧ W.drew.cell? ⟨b2, o2 + 1, none⟩ = some v1) ∧ (W.drew.cell? ⟨b2, o2 + 2, none⟩ = some v2 ∧ W.drew.cell? ⟨b2, o2 + 3, none⟩ = some v3)) ∧ Below wb.heap.size wb W.drew := ⟨h.1, Below.drew h.2⟩
theorem sw_alloc {wb W : World} {b2 o2 : Nat} {v0 v1 v2 v3 : Value} (h : ((W.cell? ⟨b2, o2, none⟩ = some v0 ∧ W.cell? ⟨b2, o2 + 1, none⟩ = some v1) ∧ (W.cell? ⟨b2, o2 + 2, none⟩ = some v2 ∧ W.cell? ⟨b2, o2 + 3, none⟩ = some v3)) ∧ Below wb.heap.size wb W) (o : Obj) : (((W.alloc o).cell? ⟨b2, o2, none⟩ = some v0 ∧ (W.alloc o).cell? ⟨b2, o2 + 1, none⟩ = some v1) ∧ ((W.alloc o).cell? ⟨b2, o2 + 2, none⟩ = some v2 ∧ (W.alloc o).cell? ⟨b2, o2 + 3, none⟩ = some v3)) ∧ Below wb.heap.size wb (W.alloc o) := sw_keep (boxed_ _ _) h
theorem sw_set {wb W : World} {b2 o2 : Nat} {v0 v1 v2 v3 : Value} (h : ((W.cell? ⟨b2, o2, none⟩ = some v0 ∧ W.cell? ⟨b2, o2 + 1, none⟩ = some v1) ∧ (W.cell? ⟨b2, o2 + 2, none⟩ = some v2 ∧ W.cell? ⟨b2, o2 + 3, none⟩ = some v3)) ∧ Below wb.heap.size wb W) (p : Addr) (u : Value) (n1 : p.block ≠ b2) (n2 : wb.heap.size ≤ p.block) : (((W.setCell p u).cell? ⟨b2, o2, none⟩ = some v0 ∧ (W.setCell p u).cell? ⟨b2, o2 + 1, none⟩ = some v1) ∧ ((W.setCell p u).cell? ⟨b2, o2 + 2, none⟩ = some v2 ∧ (W.setCell p u).cell? ⟨b2, o2 + 3, none⟩ = some v3)) ∧ Below wb.heap.size wb (W.setCell p u) := by
  have e : ∀ k : Nat, (W.setCell p u).cell? ⟨b2, k, none⟩ = W.cell? ⟨b2, k, none⟩ := fun k => World.cell?_setCell_other _ _ _ _ (fun e => n1 (by rw [e]))
  exact ⟨⟨⟨(e _).trans h.1.1.1, (e _).trans h.1.1.2⟩, ⟨(e _).trans h.1.2.1, (e _).trans h.1.2.2⟩⟩, Below.setCell h.2 n2 u⟩
theorem cell_set1 {W : World} {b o g i : Nat} {u x : Value} (h : W.cell? ⟨b, o, none⟩ = some u) (n1 : b ≠ g) : (W.setCell ⟨g, i, none⟩ x).cell? ⟨b, o, none⟩ = some u :=
  (World.cell?_setCell_other _ _ _ _ (fun e => by injection e with e1; first | exact n1 e1 | exact n1 e1.symm)).trans h
set_option maxRecDepth 100000 in
set_option maxHeartbeats 4000000 in
theorem l06Take_any (r : Ru) (P p b of b2 o2 : Nat) (A1 A2 : Option Addr) (n1 c1 n2 c2 : Nat) (d : SownD) (l : List Int) (w : World) (hr : RuAt w b of r) (hs : SownAt w b2 o2 A1 n1 c1 A2 n2 c2 d) (hP : r.p = (P : Int)) (h2 : 2 ≤ P) (h8 : P ≤ 8) (hn : n1 = 2 * P) (hn2 : n2 = 2) (hp : p < 2) (hk : d.last < 2 * (P : Int)) (ho : okL d.pits = true) (ho2 : okL d.stores = true) (hl : capL P p r.ca r.sl d.last d.pits = l) :
    Calls Try.prog 42 #[.pointer (some ⟨b, of, none⟩), .pointer (some ⟨b2, o2, none⟩), .int .i64 p] w (TcPost n1 2 (setZ d.pits l l.length) (stP d.stores p (gainV d.pits l l.length)) d.last d.laps w) := by
  have hz1 := hs.s1.ints
  have hz2 := hs.s2.ints
  have HI : Hid (inPits P l) := by unfold Hid; rw [← hl]; exact capL_in h2 hk
  have hll := HI.out.1
  have HB : Hid (∀ i, i ≤ l.length → 0 ≤ gainV d.pits l i ∧ gainV d.pits l i ≤ 96 * (i : Int)) := gainV_bd ho (by omega) HI.out
  have HC : Hid (∀ w', Below w.heap.size w w' → Calls Try.prog 35 #[.pointer (some ⟨b, of, none⟩), .pointer (some ⟨b2, o2, none⟩), .int .i64 p] w' (TkPost l w')) := fun w' hb => l06Pits_any r P p b of b2 o2 A1 A2 n1 c1 n2 c2 d l w' (hr.later hb) (hs.later hb) hP h2 h8 hn hp hk ho hl
  have HG : Hid (∀ w' A cap, Below w.heap.size w w' → Sl w' w'.heap.size 1 A l.length (l.map (Value.int .i64)) → Calls Try.prog 34 #[.pointer (some ⟨b2, o2, none⟩), .slice A l.length cap] w' fun e w'' => e = .returned (.int .i64 (gainV d.pits l l.length)) ∧ Below w'.heap.size w' w'') := fun w' A cap hb hsl => l06Sum_any P b2 o2 A1 A2 n1 c1 n2 c2 d A cap l _ w' (hs.later hb) hsl HI.out h8 hn ho rfl
  have HO2 := Lib.hid ho2
  have S1 := Lib.hid hs.s1
  have S2 := Lib.hid hs.s2
  have HSA := Lib.hid hs
  have hb2 := cell_lt hs.c0
  clear hP hr hs hl ho ho2 hk
  have hn1' : n1 ≤ 1048576 := by omega
  have hn2' : n2 ≤ 1048576 := by omega
  have HN1 := Lib.hid hn
  have HN2 := Lib.hid hn2
  clear hn hn2
  go_enter Try.func42, Try.ntmps42
  go_wp2_with fail
  with_reducible refine Calls.mono (HC.out _ ?_) ?_
  · (repeat' (first | (with_reducible exact Below.refl _ _) | (with_reducible assumption) | (with_reducible refine Below.alloc ?_ ?_ _) | (with_reducible refine Below.drew ?_) | (with_reducible refine belowDrewN ?_ _) | (with_reducible refine Below.setCell ?_ ?_ _) | (with_reducible refine Below.via (by with_reducible assumption) ?_ ?_) | (with_reducible refine Below.viaD (by with_reducible assumption) ?_ ?_) | (with_reducible exact Below.size (by with_reducible assumption)) | go_size | (with_reducible refine Nat.le_trans ?_ (Below.size (by with_reducible assumption))) | (with_reducible refine Nat.le_trans ?_ (sizeAlloc _ _)) | (with_reducible refine Nat.le_trans ?_ (sizeSet _ _ _)) | (with_reducible refine Nat.le_trans ?_ (sizeDrew _))))
  rintro e w1 ⟨A', gl, cap, rfl, hgl, hnc, hcm', hown, hb1⟩
  have HB1 : Hid (Below w.heap.size w w1) := by unfold Hid; (repeat' (first | (with_reducible exact Below.refl _ _) | (with_reducible assumption) | (with_reducible refine Below.alloc ?_ ?_ _) | (with_reducible refine Below.drew ?_) | (with_reducible refine belowDrewN ?_ _) | (with_reducible refine Below.setCell ?_ ?_ _) | (with_reducible refine Below.via (by with_reducible assumption) ?_ ?_) | (with_reducible refine Below.viaD (by with_reducible assumption) ?_ ?_) | (with_reducible exact Below.size (by with_reducible assumption)) | go_size | (with_reducible refine Nat.le_trans ?_ (Below.size (by with_reducible assumption))) | (with_reducible refine Nat.le_trans ?_ (sizeAlloc _ _)) | (with_reducible refine Nat.le_trans ?_ (sizeSet _ _ _)) | (with_reducible refine Nat.le_trans ?_ (sizeDrew _))))
  have K6 : Blk w1 w.heap.size 31 #[.slice none 0 0, .slice none 0 0, .int .i64 0, .int .i64 0] := (Blk.new w 31 #[.slice none 0 0, .slice none 0 0, .int .i64 0, .int .i64 0]).later hb1
  have HK6 := Lib.hid K6
  have HOW := Lib.hid hown
  have hlt2 := K6.lt
  have hC0 : ((w1.cell? ⟨b2, o2, none⟩ = some (.slice A1 n1 c1) ∧ w1.cell? ⟨b2, o2 + 1, none⟩ = some (.slice A2 n2 c2)) ∧ (w1.cell? ⟨b2, o2 + 2, none⟩ = some (.int .i64 d.last) ∧ w1.cell? ⟨b2, o2 + 3, none⟩ = some (.int .i64 d.laps))) ∧ Below w1.heap.size w1 w1 := by
    have h := HSA.out.later HB1.out
    exact ⟨⟨⟨h.c0, h.c1⟩, ⟨h.c2, h.c3⟩⟩, Below.refl _ _⟩
  have SW1 := Lib.hid (S1.out.later HB1.out)
  have SW2 := Lib.hid (S2.out.later HB1.out)
  have hb2' : b2 < w1.heap.size := by omega
  clear hb1 hown K6
  go_wp2_with fail
  go_upto_region 2 with fail
  go_cut [7, 8] (fun s7 s8 wx => s7 = .slice A' l.length cap ∧ ∃ g8 g1 q1 g2 q2, s8 = .pointer (some ⟨g8, 0, none⟩) ∧ (wx.cell? ⟨g8, 0, none⟩ = some (.slice (some ⟨g1, 0, none⟩) n1 q1) ∧ wx.cell? ⟨g8, 1, none⟩ = some (.slice (some ⟨g2, 0, none⟩) n2 q2) ∧ wx.cell? ⟨g8, 2, none⟩ = some (.int .i64 d.last) ∧ wx.cell? ⟨g8, 3, none⟩ = some (.int .i64 d.laps)) ∧ OwnV wx g1 2 1 (some ⟨g1, 0, none⟩) n1 (d.pits.map (Value.int .i64)) ∧ OwnV wx g2 2 1 (some ⟨g2, 0, none⟩) n2 (d.stores.map (Value.int .i64)) ∧ (w1.heap.size ≤ g1 ∧ w1.heap.size ≤ g2 ∧ w1.heap.size ≤ g8 ∧ g1 ≠ g2 ∧ g8 ≠ g1 ∧ g8 ≠ g2) ∧ Below w1.heap.size w1 wx)
  case first => as_aux_lemma =>
    have hnn1 := HN1.out
    have hnn2 := HN2.out
    have hp1 : 0 < n1 := by omega
    have hp2 : 0 < n2 := by omega
    clear hnn1 hnn2
    go_region_held3 (fun W => ((W.cell? ⟨b2, o2, none⟩ = some (.slice A1 n1 c1) ∧ W.cell? ⟨b2, o2 + 1, none⟩ = some (.slice A2 n2 c2)) ∧ (W.cell? ⟨b2, o2 + 2, none⟩ = some (.int .i64 d.last) ∧ W.cell? ⟨b2, o2 + 3, none⟩ = some (.int .i64 d.laps))) ∧ Below w1.heap.size w1 W) (first | (with_reducible assumption) | (repeat (first | (with_reducible exact hC0) | (with_reducible refine sw_drew ?_) | (with_reducible exact HS2.out) | (with_reducible exact HS3.out) | (with_reducible refine sw_alloc ?_ _) | (with_reducible refine sw_set ?_ _ _ (by first | (show _ ≠ b2; omega) | (simp only [World.size_alloc, World.size_drew]; omega)) (by first | (show w1.heap.size ≤ _; omega) | (simp only [World.size_alloc, World.size_drew]; omega)))))) (first
      | (go_at_call 61; (with_reducible refine Calls.mono (l00Own_any A1 n1 c1 d.pits _ ?_ (by omega)) ?_); (exact SW1.out.later (by (repeat' (first | (with_reducible exact Below.refl _ _) | (with_reducible assumption) | (with_reducible refine Below.alloc ?_ ?_ _) | (with_reducible refine Below.drew ?_) | (with_reducible refine belowDrewN ?_ _) | (with_reducible refine Below.setCell ?_ ?_ _) | (with_reducible refine Below.via (by with_reducible assumption) ?_ ?_) | (with_reducible refine Below.viaD (by with_reducible assumption) ?_ ?_) | (with_reducible exact Below.size (by with_reducible assumption)) | go_size | (with_reducible refine Nat.le_trans ?_ (Below.size (by with_reducible assumption))) | (with_reducible refine Nat.le_trans ?_ (sizeAlloc _ _)) | (with_reducible refine Nat.le_trans ?_ (sizeSet _ _ _)) | (with_reducible refine Nat.le_trans ?_ (sizeDrew _)))))); rintro e w2 ⟨Ag1, g1, q1, rfl, hg1, hnq1, hcq1, o1, hb2x⟩; have HS2 : Hid (((w2.cell? ⟨b2, o2, none⟩ = some (.slice A1 n1 c1) ∧ w2.cell? ⟨b2, o2 + 1, none⟩ = some (.slice A2 n2 c2)) ∧ (w2.cell? ⟨b2, o2 + 2, none⟩ = some (.int .i64 d.last) ∧ w2.cell? ⟨b2, o2 + 3, none⟩ = some (.int .i64 d.laps))) ∧ Below w1.heap.size w1 w2) := sw_keep hb2x (by first | (with_reducible assumption) | (repeat (first | (with_reducible exact hC0) | (with_reducible refine sw_drew ?_) | (with_reducible exact HS2.out) | (with_reducible exact HS3.out) | (with_reducible refine sw_alloc ?_ _)))); obtain ⟨hc2, hf2, hlxw2, hzw2⟩ := bfacts hb2x; (try simp only [World.size_alloc, World.size_setCell, World.size_drew] at hc2 hf2 hlxw2 hzw2 hg1); (try (have hyl : w1.heap.size < w2.heap.size := by omega)); (first | (refine (fun (hyc0 : w2.cell? ⟨w1.heap.size, 0, none⟩ = some (.slice none 0 0)) => ?_) ?_; rotate_left; (focus ((refine (hc2 _ _ ?_).trans ?_); (focus omega); (focus (go_simp; done))))) | skip); (first | (refine (fun (hyf0 : w2.frozen? ⟨w1.heap.size, 0, none⟩ = false) => ?_) ?_; rotate_left; (focus ((refine (hf2 _ _ ?_).trans ?_); (focus omega); (focus (go_simp; done))))) | skip); (first | (refine (fun (hyc1 : w2.cell? ⟨w1.heap.size, 1, none⟩ = some (.slice none 0 0)) => ?_) ?_; rotate_left; (focus ((refine (hc2 _ _ ?_).trans ?_); (focus omega); (focus (go_simp; done))))) | skip); (first | (refine (fun (hyf1 : w2.frozen? ⟨w1.heap.size, 1, none⟩ = false) => ?_) ?_; rotate_left; (focus ((refine (hf2 _ _ ?_).trans ?_); (focus omega); (focus (go_simp; done))))) | skip); (first | (refine (fun (hyc2 : w2.cell? ⟨w1.heap.size, 2, none⟩ = some (.int .i64 0)) => ?_) ?_; rotate_left; (focus ((refine (hc2 _ _ ?_).trans ?_); (focus omega); (focus (go_simp; done))))) | skip); (first | (refine (fun (hyf2 : w2.frozen? ⟨w1.heap.size, 2, none⟩ = false) => ?_) ?_; rotate_left; (focus ((refine (hf2 _ _ ?_).trans ?_); (focus omega); (focus (go_simp; done))))) | skip); (first | (refine (fun (hyc3 : w2.cell? ⟨w1.heap.size, 3, none⟩ = some (.int .i64 0)) => ?_) ?_; rotate_left; (focus ((refine (hc2 _ _ ?_).trans ?_); (focus omega); (focus (go_simp; done))))) | skip); (first | (refine (fun (hyf3 : w2.frozen? ⟨w1.heap.size, 3, none⟩ = false) => ?_) ?_; rotate_left; (focus ((refine (hf2 _ _ ?_).trans ?_); (focus omega); (focus (go_simp; done))))) | skip); (try (have hyl : w3.heap.size < w2.heap.size := by omega)); (first | (refine (fun (hyc0 : w2.cell? ⟨w3.heap.size, 0, none⟩ = some (.slice none 0 0)) => ?_) ?_; rotate_left; (focus ((refine (hc2 _ _ ?_).trans ?_); (focus omega); (focus (go_simp; done))))) | skip); (first | (refine (fun (hyf0 : w2.frozen? ⟨w3.heap.size, 0, none⟩ = false) => ?_) ?_; rotate_left; (focus ((refine (hf2 _ _ ?_).trans ?_); (focus omega); (focus (go_simp; done))))) | skip); (first | (refine (fun (hyc1 : w2.cell? ⟨w3.heap.size, 1, none⟩ = some (.slice none 0 0)) => ?_) ?_; rotate_left; (focus ((refine (hc2 _ _ ?_).trans ?_); (focus omega); (focus (go_simp; done))))) | skip); (first | (refine (fun (hyf1 : w2.frozen? ⟨w3.heap.size, 1, none⟩ = false) => ?_) ?_; rotate_left; (focus ((refine (hf2 _ _ ?_).trans ?_); (focus omega); (focus (go_simp; done))))) | skip); (first | (refine (fun (hyc2 : w2.cell? ⟨w3.heap.size, 2, none⟩ = some (.int .i64 0)) => ?_) ?_; rotate_left; (focus ((refine (hc2 _ _ ?_).trans ?_); (focus omega); (focus (go_simp; done))))) | skip); (first | (refine (fun (hyf2 : w2.frozen? ⟨w3.heap.size, 2, none⟩ = false) => ?_) ?_; rotate_left; (focus ((refine (hf2 _ _ ?_).trans ?_); (focus omega); (focus (go_simp; done))))) | skip); (first | (refine (fun (hyc3 : w2.cell? ⟨w3.heap.size, 3, none⟩ = some (.int .i64 0)) => ?_) ?_; rotate_left; (focus ((refine (hc2 _ _ ?_).trans ?_); (focus omega); (focus (go_simp; done))))) | skip); (first | (refine (fun (hyf3 : w2.frozen? ⟨w3.heap.size, 3, none⟩ = false) => ?_) ?_; rotate_left; (focus ((refine (hf2 _ _ ?_).trans ?_); (focus omega); (focus (go_simp; done))))) | skip))
      | (go_at_call 61; (with_reducible refine Calls.mono (l00Own_any A2 n2 c2 d.stores _ ?_ (by omega)) ?_); (exact SW2.out.later (by (repeat' (first | (with_reducible exact Below.refl _ _) | (with_reducible assumption) | (with_reducible refine Below.alloc ?_ ?_ _) | (with_reducible refine Below.drew ?_) | (with_reducible refine belowDrewN ?_ _) | (with_reducible refine Below.setCell ?_ ?_ _) | (with_reducible refine Below.via (by with_reducible assumption) ?_ ?_) | (with_reducible refine Below.viaD (by with_reducible assumption) ?_ ?_) | (with_reducible exact Below.size (by with_reducible assumption)) | go_size | (with_reducible refine Nat.le_trans ?_ (Below.size (by with_reducible assumption))) | (with_reducible refine Nat.le_trans ?_ (sizeAlloc _ _)) | (with_reducible refine Nat.le_trans ?_ (sizeSet _ _ _)) | (with_reducible refine Nat.le_trans ?_ (sizeDrew _)))))); rintro e w3 ⟨Ag2, g2, q2, rfl, hg2, hnq2, hcq2, o2x, hb3x⟩; have HS3 : Hid (((w3.cell? ⟨b2, o2, none⟩ = some (.slice A1 n1 c1) ∧ w3.cell? ⟨b2, o2 + 1, none⟩ = some (.slice A2 n2 c2)) ∧ (w3.cell? ⟨b2, o2 + 2, none⟩ = some (.int .i64 d.last) ∧ w3.cell? ⟨b2, o2 + 3, none⟩ = some (.int .i64 d.laps))) ∧ Below w1.heap.size w1 w3) := sw_keep hb3x (by first | (with_reducible assumption) | (repeat (first | (with_reducible exact hC0) | (with_reducible refine sw_drew ?_) | (with_reducible exact HS2.out) | (with_reducible exact HS3.out) | (with_reducible refine sw_alloc ?_ _)))); obtain ⟨hc3, hf3, hlxw3, hzw3⟩ := bfacts hb3x; (try simp only [World.size_alloc, World.size_setCell, World.size_drew] at hc3 hf3 hlxw3 hzw3 hg2); (try (have hyl : w1.heap.size < w3.heap.size := by omega)); (first | (refine (fun (hyc0 : w3.cell? ⟨w1.heap.size, 0, none⟩ = some (.slice none 0 0)) => ?_) ?_; rotate_left; (focus ((refine (hc3 _ _ ?_).trans ?_); (focus omega); (focus (go_simp; done))))) | skip); (first | (refine (fun (hyf0 : w3.frozen? ⟨w1.heap.size, 0, none⟩ = false) => ?_) ?_; rotate_left; (focus ((refine (hf3 _ _ ?_).trans ?_); (focus omega); (focus (go_simp; done))))) | skip); (first | (refine (fun (hyc1 : w3.cell? ⟨w1.heap.size, 1, none⟩ = some (.slice none 0 0)) => ?_) ?_; rotate_left; (focus ((refine (hc3 _ _ ?_).trans ?_); (focus omega); (focus (go_simp; done))))) | skip); (first | (refine (fun (hyf1 : w3.frozen? ⟨w1.heap.size, 1, none⟩ = false) => ?_) ?_; rotate_left; (focus ((refine (hf3 _ _ ?_).trans ?_); (focus omega); (focus (go_simp; done))))) | skip); (first | (refine (fun (hyc2 : w3.cell? ⟨w1.heap.size, 2, none⟩ = some (.int .i64 0)) => ?_) ?_; rotate_left; (focus ((refine (hc3 _ _ ?_).trans ?_); (focus omega); (focus (go_simp; done))))) | skip); (first | (refine (fun (hyf2 : w3.frozen? ⟨w1.heap.size, 2, none⟩ = false) => ?_) ?_; rotate_left; (focus ((refine (hf3 _ _ ?_).trans ?_); (focus omega); (focus (go_simp; done))))) | skip); (first | (refine (fun (hyc3 : w3.cell? ⟨w1.heap.size, 3, none⟩ = some (.int .i64 0)) => ?_) ?_; rotate_left; (focus ((refine (hc3 _ _ ?_).trans ?_); (focus omega); (focus (go_simp; done))))) | skip); (first | (refine (fun (hyf3 : w3.frozen? ⟨w1.heap.size, 3, none⟩ = false) => ?_) ?_; rotate_left; (focus ((refine (hf3 _ _ ?_).trans ?_); (focus omega); (focus (go_simp; done))))) | skip); (try (have hyl : w2.heap.size < w3.heap.size := by omega)); (first | (refine (fun (hyc0 : w3.cell? ⟨w2.heap.size, 0, none⟩ = some (.slice none 0 0)) => ?_) ?_; rotate_left; (focus ((refine (hc3 _ _ ?_).trans ?_); (focus omega); (focus (go_simp; done))))) | skip); (first | (refine (fun (hyf0 : w3.frozen? ⟨w2.heap.size, 0, none⟩ = false) => ?_) ?_; rotate_left; (focus ((refine (hf3 _ _ ?_).trans ?_); (focus omega); (focus (go_simp; done))))) | skip); (first | (refine (fun (hyc1 : w3.cell? ⟨w2.heap.size, 1, none⟩ = some (.slice none 0 0)) => ?_) ?_; rotate_left; (focus ((refine (hc3 _ _ ?_).trans ?_); (focus omega); (focus (go_simp; done))))) | skip); (first | (refine (fun (hyf1 : w3.frozen? ⟨w2.heap.size, 1, none⟩ = false) => ?_) ?_; rotate_left; (focus ((refine (hf3 _ _ ?_).trans ?_); (focus omega); (focus (go_simp; done))))) | skip); (first | (refine (fun (hyc2 : w3.cell? ⟨w2.heap.size, 2, none⟩ = some (.int .i64 0)) => ?_) ?_; rotate_left; (focus ((refine (hc3 _ _ ?_).trans ?_); (focus omega); (focus (go_simp; done))))) | skip); (first | (refine (fun (hyf2 : w3.frozen? ⟨w2.heap.size, 2, none⟩ = false) => ?_) ?_; rotate_left; (focus ((refine (hf3 _ _ ?_).trans ?_); (focus omega); (focus (go_simp; done))))) | skip); (first | (refine (fun (hyc3 : w3.cell? ⟨w2.heap.size, 3, none⟩ = some (.int .i64 0)) => ?_) ?_; rotate_left; (focus ((refine (hc3 _ _ ?_).trans ?_); (focus omega); (focus (go_simp; done))))) | skip); (first | (refine (fun (hyf3 : w3.frozen? ⟨w2.heap.size, 3, none⟩ = false) => ?_) ?_; rotate_left; (focus ((refine (hf3 _ _ ?_).trans ?_); (focus omega); (focus (go_simp; done))))) | skip)))
    all_goals
      have hg1' := o1.lt hp1
      have hg2' := o2x.lt hp2
      obtain ⟨rfl, -⟩ := o1.blk hp1
      obtain ⟨rfl, -⟩ := o2x.blk hp2
      go_wp2_with fail
      go_meet
      refine ⟨rfl, _, g1, q1, g2, q2, rfl, ⟨?_, ?_, ?_, ?_⟩, ?_, ?_, ⟨?_, ?_, ?_, ?_, ?_, ?_⟩, ?_⟩
      rotate_left 4
      · (repeat (first | (with_reducible refine OwnV.dr ?_) | (refine OwnV.setO ?_ _ _ (by first | (show _ ≠ w1.heap.size; omega) | (show _ ≠ w2.heap.size; omega) | (show _ ≠ w3.heap.size; omega))))); first | exact o1 | exact o1.later (by (repeat' (first | (with_reducible exact Below.refl _ _) | (with_reducible assumption) | (with_reducible refine Below.alloc ?_ ?_ _) | (with_reducible refine Below.drew ?_) | (with_reducible refine belowDrewN ?_ _) | (with_reducible refine Below.setCell ?_ ?_ _) | (with_reducible refine Below.via (by with_reducible assumption) ?_ ?_) | (with_reducible refine Below.viaD (by with_reducible assumption) ?_ ?_) | (with_reducible exact Below.size (by with_reducible assumption)) | go_size | (with_reducible refine Nat.le_trans ?_ (Below.size (by with_reducible assumption))) | (with_reducible refine Nat.le_trans ?_ (sizeAlloc _ _)) | (with_reducible refine Nat.le_trans ?_ (sizeSet _ _ _)) | (with_reducible refine Nat.le_trans ?_ (sizeDrew _)))))
      · (repeat (first | (with_reducible refine OwnV.dr ?_) | (refine OwnV.setO ?_ _ _ (by first | (show _ ≠ w1.heap.size; omega) | (show _ ≠ w2.heap.size; omega) | (show _ ≠ w3.heap.size; omega))))); first | exact o2x | exact o2x.later (by (repeat' (first | (with_reducible exact Below.refl _ _) | (with_reducible assumption) | (with_reducible refine Below.alloc ?_ ?_ _) | (with_reducible refine Below.drew ?_) | (with_reducible refine belowDrewN ?_ _) | (with_reducible refine Below.setCell ?_ ?_ _) | (with_reducible refine Below.via (by with_reducible assumption) ?_ ?_) | (with_reducible refine Below.viaD (by with_reducible assumption) ?_ ?_) | (with_reducible exact Below.size (by with_reducible assumption)) | go_size | (with_reducible refine Nat.le_trans ?_ (Below.size (by with_reducible assumption))) | (with_reducible refine Nat.le_trans ?_ (sizeAlloc _ _)) | (with_reducible refine Nat.le_trans ?_ (sizeSet _ _ _)) | (with_reducible refine Nat.le_trans ?_ (sizeDrew _)))))
      · omega
      · omega
      · omega
      · omega
      · omega
      · omega
      · (repeat' (first | (with_reducible exact Below.refl _ _) | (with_reducible assumption) | (with_reducible refine Below.alloc ?_ ?_ _) | (with_reducible refine Below.drew ?_) | (with_reducible refine belowDrewN ?_ _) | (with_reducible refine Below.setCell ?_ ?_ _) | (with_reducible refine Below.via (by with_reducible assumption) ?_ ?_) | (with_reducible refine Below.viaD (by with_reducible assumption) ?_ ?_) | (with_reducible exact Below.size (by with_reducible assumption)) | go_size | (with_reducible refine Nat.le_trans ?_ (Below.size (by with_reducible assumption))) | (with_reducible refine Nat.le_trans ?_ (sizeAlloc _ _)) | (with_reducible refine Nat.le_trans ?_ (sizeSet _ _ _)) | (with_reducible refine Nat.le_trans ?_ (sizeDrew _))))
      all_goals (go_simp; done)
  case rest => as_aux_lemma =>
    obtain ⟨rfl, g8, g1, q1, g2, q2, rfl, ⟨e0, e1, e2, e3⟩, o1, o2x, ⟨hg1, hg2, hg8, hne, hn81, hn82⟩, hbc⟩ := hcut
    obtain rfl : n1 = 2 * P := HN1.out
    obtain rfl : n2 = 2 := HN2.out
    have hlg1 := o1.lt (by omega)
    have hlg2 := o2x.lt (by omega)
    have hlg8 := cell_lt e0
    obtain ⟨-, rest1, b1⟩ := o1.blk (by omega)
    obtain ⟨-, rest2, b2⟩ := o2x.blk (by omega)
    have B1 : Hid (Blk wc g1 2 (arR (setZ d.pits l 0) rest1)) := b1
    have B2 : Hid (Blk wc g2 2 (arR d.stores rest2)) := b2
    have OL : Hid (OwnV wc gl 2 1 A' l.length (l.map (Value.int .i64))) := HOW.out.later hbc
    have hgll : 0 < l.length → gl < w1.heap.size := fun h => HOW.out.lt h
    have K6 : Hid (Blk wc w.heap.size 31 #[.slice none 0 0, .slice none 0 0, .int .i64 0, .int .i64 0]) := HK6.out.later hbc
    have HBC : Hid (Below w.heap.size w wc) := Below.via hbc HB1.out HB1.out.size
    have hcs := hbc.size
    have c2 := (B2.out.cell p).trans (arR_at rest2 (show p < d.stores.length by omega))
    have f2 := B2.out.free p
    obtain ⟨s0, s1⟩ := okL_bd HO2.out (show p < d.stores.length by omega)
    obtain ⟨v0, v1⟩ := HB.out l.length (Nat.le_refl _)
    have HSS : Hid (∀ s u, d.stores.getD p 0 = s → gainV d.pits l l.length = u → (arR d.stores rest2).setIfInBounds p (.int .i64 (s + u)) = arR (stP d.stores p (gainV d.pits l l.length)) rest2) := by
      intro s u hs hu
      subst hs hu
      rw [arR_set rest2 (show p < d.stores.length by omega)]
      rfl
    have HEE := Lib.hid (And.intro (And.intro e0 e1) (And.intro e2 e3))
    clear b1 b2 o1 o2x hbc
    go_upto_region 3 with fail
    go_cut [8] (fun s8 wx => s8 = .pointer (some ⟨g8, 0, none⟩) ∧ (wx.cell? ⟨g8, 0, none⟩ = some (.slice (some ⟨g1, 0, none⟩) (2 * P) q1) ∧ wx.cell? ⟨g8, 1, none⟩ = some (.slice (some ⟨g2, 0, none⟩) 2 q2) ∧ wx.cell? ⟨g8, 2, none⟩ = some (.int .i64 d.last) ∧ wx.cell? ⟨g8, 3, none⟩ = some (.int .i64 d.laps)) ∧ Blk wx g1 2 (arR (setZ d.pits l 0) rest1) ∧ Blk wx g2 2 (arR (stP d.stores p (gainV d.pits l l.length)) rest2) ∧ OwnV wx gl 2 1 A' l.length (l.map (Value.int .i64)) ∧ Blk wx w.heap.size 31 #[.slice none 0 0, .slice none 0 0, .int .i64 0, .int .i64 0] ∧ Below w.heap.size w wx)
    case first => as_aux_lemma =>
      revert c2 s0 s1 v0 v1 HSS HG
      generalize hss : d.stores.getD p 0 = s
      generalize hgu : gainV d.pits l l.length = u
      intro HG c2 s0 s1 v0 v1 HSS
      have HS2 := HSS.out s u rfl rfl
      have HSX := Lib.hid HS2
      clear HSS HS2
      have hw1 : IntKind.i64.wrap (s + u) = s + u := IntWalk.i64_in _ (by omega)
      go_region_with ((go_at_call 34; (with_reducible refine Calls.mono (HG.out _ A' cap ?_ ?_) ?_); (have := HBC.out; (repeat' (first | (with_reducible exact Below.refl _ _) | (with_reducible assumption) | (with_reducible refine Below.alloc ?_ ?_ _) | (with_reducible refine Below.drew ?_) | (with_reducible refine belowDrewN ?_ _) | (with_reducible refine Below.setCell ?_ ?_ _) | (with_reducible refine Below.via (by with_reducible assumption) ?_ ?_) | (with_reducible refine Below.viaD (by with_reducible assumption) ?_ ?_) | (with_reducible exact Below.size (by with_reducible assumption)) | go_size | (with_reducible refine Nat.le_trans ?_ (Below.size (by with_reducible assumption))) | (with_reducible refine Nat.le_trans ?_ (sizeAlloc _ _)) | (with_reducible refine Nat.le_trans ?_ (sizeSet _ _ _)) | (with_reducible refine Nat.le_trans ?_ (sizeDrew _))))); (exact (OL.out.later (by (repeat' (first | (with_reducible exact Below.refl _ _) | (with_reducible assumption) | (with_reducible refine Below.alloc ?_ ?_ _) | (with_reducible refine Below.drew ?_) | (with_reducible refine belowDrewN ?_ _) | (with_reducible refine Below.setCell ?_ ?_ _) | (with_reducible refine Below.via (by with_reducible assumption) ?_ ?_) | (with_reducible refine Below.viaD (by with_reducible assumption) ?_ ?_) | (with_reducible exact Below.size (by with_reducible assumption)) | go_size | (with_reducible refine Nat.le_trans ?_ (Below.size (by with_reducible assumption))) | (with_reducible refine Nat.le_trans ?_ (sizeAlloc _ _)) | (with_reducible refine Nat.le_trans ?_ (sizeSet _ _ _)) | (with_reducible refine Nat.le_trans ?_ (sizeDrew _)))))).sl); rintro e w5 ⟨rfl, hb5⟩; obtain ⟨hc5, hf5, hl5, hz5⟩ := bfacts hb5; (try simp only [World.size_alloc, World.size_setCell, World.size_drew] at hc5 hf5 hl5 hz5)))
      all_goals
        go_wp2_with fail
        go_meet
        have D5 : Below wc.heap.size wc w5 := by (repeat' (first | (with_reducible exact Below.refl _ _) | (with_reducible assumption) | (with_reducible refine Below.alloc ?_ ?_ _) | (with_reducible refine Below.drew ?_) | (with_reducible refine belowDrewN ?_ _) | (with_reducible refine Below.setCell ?_ ?_ _) | (with_reducible refine Below.via (by with_reducible assumption) ?_ ?_) | (with_reducible refine Below.viaD (by with_reducible assumption) ?_ ?_) | (with_reducible exact Below.size (by with_reducible assumption)) | go_size | (with_reducible refine Nat.le_trans ?_ (Below.size (by with_reducible assumption))) | (with_reducible refine Nat.le_trans ?_ (sizeAlloc _ _)) | (with_reducible refine Nat.le_trans ?_ (sizeSet _ _ _)) | (with_reducible refine Nat.le_trans ?_ (sizeDrew _))))
        have e0' := (D5.cell (p := ⟨_, _, none⟩) hlg8).trans HEE.out.1.1
        have e1' := (D5.cell (p := ⟨_, _, none⟩) hlg8).trans HEE.out.1.2
        have e2' := (D5.cell (p := ⟨_, _, none⟩) hlg8).trans HEE.out.2.1
        have e3' := (D5.cell (p := ⟨_, _, none⟩) hlg8).trans HEE.out.2.2
        refine ⟨rfl, ⟨cell_set1 e0' hn82, cell_set1 e1' hn82, cell_set1 e2' hn82, cell_set1 e3' hn82⟩, ?_, ?_, ?_, ?_, ?_⟩
        · exact Blk.stO (B1.out.later D5) _ _ hne
        · rw [hgu, ← HSX.out]
          exact Blk.set (B2.out.later D5) p _
        · exact OwnV.apart (OL.out.later D5) (only_setCell (p := ⟨g2, p, none⟩) (World.grownBy.refl _ _) (.inl rfl) _) (fun h => by have := hgll h; show gl ≠ g2; omega)
        · exact Blk.stO (K6.out.later D5) _ _ (by show w.heap.size ≠ g2; omega)
        · have := HBC.out
          have D6 : Below w.heap.size w w5 := Below.via D5 HBC.out HBC.out.size
          clear D5
          (repeat' (first | (with_reducible exact Below.refl _ _) | (with_reducible assumption) | (with_reducible refine Below.alloc ?_ ?_ _) | (with_reducible refine Below.drew ?_) | (with_reducible refine belowDrewN ?_ _) | (with_reducible refine Below.setCell ?_ ?_ _) | (with_reducible refine Below.via (by with_reducible assumption) ?_ ?_) | (with_reducible refine Below.viaD (by with_reducible assumption) ?_ ?_) | (with_reducible exact Below.size (by with_reducible assumption)) | go_size | (with_reducible refine Nat.le_trans ?_ (Below.size (by with_reducible assumption))) | (with_reducible refine Nat.le_trans ?_ (sizeAlloc _ _)) | (with_reducible refine Nat.le_trans ?_ (sizeSet _ _ _)) | (with_reducible refine Nat.le_trans ?_ (sizeDrew _))))
    case rest => as_aux_lemma =>
      obtain ⟨rfl, ⟨e0, e1, e2, e3⟩, b1, b2, ol, k6, hbl⟩ := hcut
      have B1' := Lib.hid b1
      have B2' := Lib.hid b2
      have OL' := Lib.hid ol
      have K6' := Lib.hid k6
      have HBL := Lib.hid hbl
      clear b1 b2 ol k6 hbl HEE c2 f2
      go_wp2_with fail
      go_loopw [9] (fun i wr => ∃ k : Nat, k ≤ l.length ∧ i = .int .i64 k ∧ (wr.cell? ⟨g8, 0, none⟩ = some (.slice (some ⟨g1, 0, none⟩) (2 * P) q1) ∧ wr.cell? ⟨g8, 1, none⟩ = some (.slice (some ⟨g2, 0, none⟩) 2 q2) ∧ wr.cell? ⟨g8, 2, none⟩ = some (.int .i64 d.last) ∧ wr.cell? ⟨g8, 3, none⟩ = some (.int .i64 d.laps)) ∧ Blk wr g1 2 (arR (setZ d.pits l k) rest1) ∧ Blk wr g2 2 (arR (stP d.stores p (gainV d.pits l l.length)) rest2) ∧ OwnV wr gl 2 1 A' l.length (l.map (Value.int .i64)) ∧ Blk wr w.heap.size 31 #[.slice none 0 0, .slice none 0 0, .int .i64 0, .int .i64 0] ∧ Below w.heap.size w wr) (fun i _ => l.length - (intOf i).toNat)
      case atStart => exact ⟨0, Nat.zero_le _, rfl, ⟨e0, e1, e2, e3⟩, B1'.out, B2'.out, OL'.out, K6'.out, HBL.out⟩
      case round =>
        clear e0 e1 e2 e3
        obtain ⟨k, hk, rfl, ⟨e0, e1, e2, e3⟩, b1, b2, ol, k6, hbl⟩ := hrel
        have HE := Lib.hid (And.intro (And.intro e0 e1) (And.intro e2 e3))
        have HBLR := Lib.hid hbl
        have HB1' := Lib.hid b1
        have HB2' := Lib.hid b2
        have HOL := Lib.hid ol
        have HK := Lib.hid k6
        have t1 := b1.lt
        have t2 := b2.lt
        have t3 := k6.lt
        have t4 := cell_lt e0
        by_cases hlt : k < l.length
        · obtain ⟨bl, oll, x, hbe, hbl', HX, hxc⟩ := ol.sl.int hlt
          obtain ⟨hA, -⟩ := ol.blk (by omega)
          have hge : gl < w1.heap.size := hgll (by omega)
          rw [hA] at hbe
          obtain ⟨m, hm, hm2⟩ := HI.out.2 k hlt
          obtain rfl : (m : Int) = x := hm.symm.trans HX.out
          have c1 := (b1.cell m).trans (arR_at rest1 (show m < (setZ d.pits l k).length by rw [setZ_len]; omega))
          have f1 := b1.free m
          have HS : Hid (setZ d.pits l (k + 1) = (setZ d.pits l k).set m 0) := by unfold Hid; rw [setZ, hm, Int.toNat_natCast]
          revert c1
          generalize hzz : (setZ d.pits l k).getD m 0 = z
          intro c1
          clear b1 b2 ol k6 hbl hm hzz
          injection hbe with hbe
          injection hbe with hbe1 hbe2
          subst hbe1 hbe2
          subst hA
          rw [Nat.zero_add] at hxc
          go_wp2_with fail
          go_region
          go_wp2_with fail
          go_roundw
          case rel =>
            refine ⟨k + 1, by omega, by go_num, ⟨cell_set1 HE.out.1.1 hn81, cell_set1 HE.out.1.2 hn81, cell_set1 HE.out.2.1 hn81, cell_set1 HE.out.2.2 hn81⟩, ?_, ?_, ?_, ?_, ?_⟩
            · rw [HS.out, ← arR_set rest1 (show m < (setZ d.pits l k).length by rw [setZ_len]; omega)]
              exact Blk.drx (Blk.set HB1'.out m _)
            · exact Blk.drx (Blk.stO HB2'.out _ _ (by show g2 ≠ g1; exact Ne.symm hne))
            · exact OwnV.dr (OwnV.setO HOL.out _ _ (by show gl ≠ g1; omega))
            · exact Blk.drx (Blk.stO HK.out _ _ (by show w.heap.size ≠ g1; omega))
            · have := HBLR.out
              (repeat' (first | (with_reducible exact Below.refl _ _) | (with_reducible assumption) | (with_reducible refine Below.alloc ?_ ?_ _) | (with_reducible refine Below.drew ?_) | (with_reducible refine belowDrewN ?_ _) | (with_reducible refine Below.setCell ?_ ?_ _) | (with_reducible refine Below.via (by with_reducible assumption) ?_ ?_) | (with_reducible refine Below.viaD (by with_reducible assumption) ?_ ?_) | (with_reducible exact Below.size (by with_reducible assumption)) | go_size | (with_reducible refine Nat.le_trans ?_ (Below.size (by with_reducible assumption))) | (with_reducible refine Nat.le_trans ?_ (sizeAlloc _ _)) | (with_reducible refine Nat.le_trans ?_ (sizeSet _ _ _)) | (with_reducible refine Nat.le_trans ?_ (sizeDrew _))))
          case measure => first | (simp [intOf]; done) | (simp [intOf]; omega)
        · obtain rfl : k = l.length := by omega
          have x0 := k6.cell 0
          have x1 := k6.cell 1
          have x2 := k6.cell 2
          have x3 := k6.cell 3
          have y0 := k6.free 0
          have y1 := k6.free 1
          have y2 := k6.free 2
          have y3 := k6.free 3
          simp only [List.getElem?_toArray, List.getElem?_cons_zero, List.getElem?_cons_succ] at x0 x1 x2 x3
          have P1 : Hid (OwnV wr g1 2 1 (some ⟨g1, 0, none⟩) (2 * P) ((setZ d.pits l l.length).map (Value.int .i64))) := ⟨by rw [List.length_map, setZ_len]; omega, fun _ => ⟨rfl, rest1, b1⟩⟩
          have P2 : Hid (OwnV wr g2 2 1 (some ⟨g2, 0, none⟩) 2 ((stP d.stores p (gainV d.pits l l.length)).map (Value.int .i64))) := ⟨by rw [List.length_map, stP_len]; omega, fun _ => ⟨rfl, rest2, b2⟩⟩
          obtain ⟨hq0, hq1, hq2, hq3⟩ := ress_cells (g := w.heap.size) k6
          clear b1 b2 ol k6 hbl
          go_wp2_with fail
          (try simp only [Exit.inBlock, Exit.then])
          refine bodyPost_ret (by simp [results, Try.results42, go_sem, hq0, hq1, hq2, hq3]; try rfl) rfl ?_
          refine ⟨g1, q1, g2, q2, rfl, ?_, ?_, ⟨by omega, by omega, hne, by simp only [World.size_setCell]; omega, by simp only [World.size_setCell]; omega⟩, by have := HBLR.out; (repeat' (first | (with_reducible exact Below.refl _ _) | (with_reducible assumption) | (with_reducible refine Below.alloc ?_ ?_ _) | (with_reducible refine Below.drew ?_) | (with_reducible refine belowDrewN ?_ _) | (with_reducible refine Below.setCell ?_ ?_ _) | (with_reducible refine Below.via (by with_reducible assumption) ?_ ?_) | (with_reducible refine Below.viaD (by with_reducible assumption) ?_ ?_) | (with_reducible exact Below.size (by with_reducible assumption)) | go_size | (with_reducible refine Nat.le_trans ?_ (Below.size (by with_reducible assumption))) | (with_reducible refine Nat.le_trans ?_ (sizeAlloc _ _)) | (with_reducible refine Nat.le_trans ?_ (sizeSet _ _ _)) | (with_reducible refine Nat.le_trans ?_ (sizeDrew _))))⟩
          · (repeat (refine OwnV.setO ?_ _ _ (by show _ ≠ w.heap.size; omega))); exact P1.out
          · (repeat (refine OwnV.setO ?_ _ _ (by show _ ≠ w.heap.size; omega))); exact P2.out
end Go.Proofs.Ytdkljnlkfkjdpaa
