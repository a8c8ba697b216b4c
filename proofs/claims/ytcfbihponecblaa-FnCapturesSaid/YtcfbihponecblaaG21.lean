/- Captures: the seeds behind the captures, by the program. Conditions: lengths below 2^20. -/
import Derived.Test.YtcfbihponecblaaG20
import Derived.Deep.DeepCutAuto
namespace Go.Proofs.Ytcfbihponecblaa
set_option linter.unusedSimpArgs false
set_option linter.unusedVariables false
open Go.RowKit

/-- Seeds of the call's own. -/
def TcPost (n1 n2 : Nat) (zs st : List Int) (la lp : Int) (w : World) (e : Ending) (w' : World) : Prop :=
  ∃ (g1 q1 g2 q2 : Nat), e = .returned (.agg #[.slice (some ⟨g1, 0, none⟩) n1 q1, .slice (some ⟨g2, 0, none⟩) n2 q2, .int .i64 la, .int .i64 lp]) ∧ OwnV w' g1 2 1 (some ⟨g1, 0, none⟩) n1 (zs.map (Value.int .i64)) ∧ OwnV w' g2 2 1 (some ⟨g2, 0, none⟩) n2 (st.map (Value.int .i64)) ∧ (w.heap.size ≤ g1 ∧ w.heap.size ≤ g2 ∧ g1 ≠ g2 ∧ g1 < w'.heap.size ∧ g2 < w'.heap.size) ∧ Below w.heap.size w w'
theorem grown_dr {w w' : World} {row : Option Nat} (h : w.grownBy w' row) : w.grownBy w'.drew row := ⟨h.os, h.tape, h.output, h.size, h.block⟩
theorem grown_of {w w' : World} (row : Option Nat) (h : Below w.heap.size w w') : w.grownBy w' row := ⟨h.os, h.tape, h.output, h.size, fun k hk _ => h.block k hk⟩
theorem OwnV.dr {w : World} {g : Nat} {t : TypeId} {m : Nat} {A : Option Addr} {n : Nat} {vs : List Value} (h : OwnV w g t m A n vs) : OwnV w.drew g t m A n vs := ⟨h.len, h.blk⟩
theorem OwnV.setO {w : World} {g : Nat} {t : TypeId} {m : Nat} {A : Option Addr} {n : Nat} {vs : List Value} (h : OwnV w g t m A n vs) (p : Addr) (u : Value) (hne : g ≠ p.block) : OwnV (w.setCell p u) g t m A n vs :=
  ⟨h.len, fun hn => by
    obtain ⟨e, rest, hb⟩ := h.blk hn
    exact ⟨e, rest, (Below.heap_setCell w p u g hne).trans hb⟩⟩
theorem cell_set2d {W : World} {b o g g' i i' : Nat} {u x y : Value} (h : W.cell? ⟨b, o, none⟩ = some u) (n1 : b ≠ g) (n2 : b ≠ g') : (((W.setCell ⟨g, i, none⟩ x).setCell ⟨g', i', none⟩ y).drew).cell? ⟨b, o, none⟩ = some u :=
  (World.cell?_setCell_other _ _ _ _ (fun e => by injection e with e1; first | exact n2 e1 | exact n2 e1.symm)).trans ((World.cell?_setCell_other _ _ _ _ (fun e => by injection e with e1; first | exact n1 e1 | exact n1 e1.symm)).trans h)
theorem Blk.drx {w : World} {g : Nat} {t : TypeId} {cs : Array Value} (h : Blk w g t cs) : Blk w.drew g t cs := h
theorem Blk.stO {w : World} {g : Nat} {t : TypeId} {cs : Array Value} (h : Blk w g t cs) (p : Addr) (u : Value) (hne : g ≠ p.block) : Blk (w.setCell p u) g t cs := (Below.heap_setCell w p u g hne).trans h
theorem ress_cells {w1 : World} {g : Nat} {t : TypeId} {u0 u1 u2 u3 : Value} (K : Blk w1 g t #[u0, u1, u2, u3]) :
    (∀ v0 v1 v2 v3, ((((w1.setCell ⟨g, 0, none⟩ v0).setCell ⟨g, 1, none⟩ v1).setCell ⟨g, 2, none⟩ v2).setCell ⟨g, 3, none⟩ v3).cell? ⟨g, 0, none⟩ = some v0) ∧ (∀ v0 v1 v2 v3, ((((w1.setCell ⟨g, 0, none⟩ v0).setCell ⟨g, 1, none⟩ v1).setCell ⟨g, 2, none⟩ v2).setCell ⟨g, 3, none⟩ v3).cell? ⟨g, 1, none⟩ = some v1) ∧ (∀ v0 v1 v2 v3, ((((w1.setCell ⟨g, 0, none⟩ v0).setCell ⟨g, 1, none⟩ v1).setCell ⟨g, 2, none⟩ v2).setCell ⟨g, 3, none⟩ v3).cell? ⟨g, 2, none⟩ = some v2) ∧ (∀ v0 v1 v2 v3, ((((w1.setCell ⟨g, 0, none⟩ v0).setCell ⟨g, 1, none⟩ v1).setCell ⟨g, 2, none⟩ v2).setCell ⟨g, 3, none⟩ v3).cell? ⟨g, 3, none⟩ = some v3) :=
  ⟨fun v0 v1 v2 v3 => ((((K.set 0 v0).set 1 v1).set 2 v2).set 3 v3).cell 0, fun v0 v1 v2 v3 => ((((K.set 0 v0).set 1 v1).set 2 v2).set 3 v3).cell 1, fun v0 v1 v2 v3 => ((((K.set 0 v0).set 1 v1).set 2 v2).set 3 v3).cell 2, fun v0 v1 v2 v3 => ((((K.set 0 v0).set 1 v1).set 2 v2).set 3 v3).cell 3⟩
set_option maxRecDepth 100000 in
set_option maxHeartbeats 4000000 in
theorem takeCaptures_any (r : Ru) (P p : Nat) (last : Int) (zs st : List Int) (A1 A2 : Option Addr) (n1 c1 n2 c2 : Nat) (laps : Int) (l : List Int) (w : World) (s1 : Sl w w.heap.size 1 A1 n1 (zs.map (Value.int .i64))) (s2 : Sl w w.heap.size 1 A2 n2 (st.map (Value.int .i64))) (hP : r.p = (P : Int)) (h2 : 2 ≤ P) (h8 : P ≤ 8) (hn : n1 = 2 * P) (hn2 : n2 = 2) (hc : n1 ≤ c1) (hcm : c1 ≤ 9223372036854775807) (hp : p < 2) (hk : last < 2 * (P : Int)) (ho : okL zs = true) (ho2 : okL st = true) (hl : capL P p r.ca r.sl last zs = l) :
    Calls Try.prog 17 #[.agg #[.int .i64 r.p, .int .i64 r.s, .bool r.st, .bool r.sk, .bool r.re, .bool r.fe, .bool r.ag, .int .i64 r.ca, .int .i64 r.sl], .agg #[.slice A1 n1 c1, .slice A2 n2 c2, .int .i64 last, .int .i64 laps], .int .i64 p] w (TcPost n1 2 (setZ zs l l.length) (stP st p (gainV zs l l.length)) last laps w) := by
  have hz1 := s1.ints
  have hz2 := s2.ints
  have HI : Hid (inPits P l) := by unfold Hid; rw [← hl]; exact capL_in h2 hk
  have HN : Hid (ndL l) := by unfold Hid; rw [← hl]; exact capL_nd h2 hk
  have hll := HI.out.1
  have HB : Hid (∀ i, i ≤ l.length → 0 ≤ gainV zs l i ∧ gainV zs l i ≤ 96 * (i : Int)) := gainV_bd ho (by omega) HI.out
  have HC : Hid (∀ w', Below w.heap.size w w' → Calls Try.prog 16 #[.agg #[.int .i64 r.p, .int .i64 r.s, .bool r.st, .bool r.sk, .bool r.re, .bool r.fe, .bool r.ag, .int .i64 r.ca, .int .i64 r.sl], .agg #[.slice A1 n1 c1, .slice A2 n2 c2, .int .i64 last, .int .i64 laps], .int .i64 p] w' (TkPost l w')) := fun w' hb => captured_any r P p last zs A1 A2 n1 c1 n2 c2 laps l w' (s1.later hb) hP h2 h8 hn hc hcm hp hk ho hl
  have HO := Lib.hid ho
  have HO2 := Lib.hid ho2
  have S1 := Lib.hid s1
  have S2 := Lib.hid s2
  subst hn hn2
  have hz1' : zs.length = 2 * P := hz1
  clear hP s1 s2 hl ho ho2 hk hc hcm hz1
  go_enter Try.func17, Try.ntmps17
  go_wp2_with fail
  with_reducible refine Calls.mono (HC.out _ ?_) ?_
  · (repeat' (first | (with_reducible exact Below.refl _ _) | (with_reducible assumption) | (with_reducible refine Below.alloc ?_ ?_ _) | (with_reducible refine Below.drew ?_) | (with_reducible refine belowDrewN ?_ _) | (with_reducible refine Below.setCell ?_ ?_ _) | (with_reducible refine Below.via (by with_reducible assumption) ?_ ?_) | (with_reducible refine Below.viaD (by with_reducible assumption) ?_ ?_) | (with_reducible exact Below.size (by with_reducible assumption)) | go_size | (with_reducible refine Nat.le_trans ?_ (Below.size (by with_reducible assumption))) | (with_reducible refine Nat.le_trans ?_ (sizeAlloc _ _)) | (with_reducible refine Nat.le_trans ?_ (sizeSet _ _ _)) | (with_reducible refine Nat.le_trans ?_ (sizeDrew _))))
  rintro e w1 ⟨A', gl, cap, rfl, hgl, hnc, hcm', hown, hb1⟩
  have HB1 := Lib.hid (Below.via hb1 (Below.alloc (Below.refl _ _) (Nat.le_refl _) _) (sizeAlloc _ _))
  have K6 : Blk w1 (w.heap.size + 2) 28 #[.slice none 0 0, .slice none 0 0, .int .i64 0, .int .i64 0] := by
    have K := (Blk.new ((w.alloc (.cells #[.int .i64 r.p, .int .i64 r.s, .bool r.st, .bool r.sk, .bool r.re, .bool r.fe, .bool r.ag, .int .i64 r.ca, .int .i64 r.sl] 25)).alloc (.cells #[.slice A1 (2 * P) c1, .slice A2 2 c2, .int .i64 last, .int .i64 laps] 28)) 28 #[.slice none 0 0, .slice none 0 0, .int .i64 0, .int .i64 0]).later hb1
    simp only [World.size_alloc] at K
    exact K
  obtain ⟨-, ⟨d0, d1, d2, d3⟩, hBw⟩ := caps_at w r _ _ _ _ _ _ HB1.out
  have HK6 := Lib.hid K6
  have HOW := Lib.hid hown
  have HBW := Lib.hid hBw
  have hbs := HB1.out.size
  simp only [World.size_alloc] at hbs hgl
  have KB : Blk w1 (w.heap.size + 1) 28 #[.slice A1 (2 * P) c1, .slice A2 2 c2, .int .i64 last, .int .i64 laps] := by
    have K := (Blk.new (w.alloc (.cells #[.int .i64 r.p, .int .i64 r.s, .bool r.st, .bool r.sk, .bool r.re, .bool r.fe, .bool r.ag, .int .i64 r.ca, .int .i64 r.sl] 25)) 28 #[.slice A1 (2 * P) c1, .slice A2 2 c2, .int .i64 last, .int .i64 laps]).later HB1.out
    rw [World.size_alloc] at K
    exact K
  have HKB := Lib.hid KB
  have k0 := KB.free 0
  have k1 := KB.free 1
  have hlt1 := KB.lt
  have hlt2 := K6.lt
  clear hb1 hown hBw K6 KB
  go_wp2_with fail
  go_upto_region 2 with fail
  go_cut [7] (fun s7 wx => s7 = .slice A' l.length cap ∧ ∃ g1 q1 g2 q2, wx.cell? ⟨w.heap.size + 1, 0, none⟩ = some (.slice (some ⟨g1, 0, none⟩) (2 * P) q1) ∧ wx.cell? ⟨w.heap.size + 1, 1, none⟩ = some (.slice (some ⟨g2, 0, none⟩) 2 q2) ∧ wx.cell? ⟨w.heap.size + 1, 2, none⟩ = some (.int .i64 last) ∧ wx.cell? ⟨w.heap.size + 1, 3, none⟩ = some (.int .i64 laps) ∧ OwnV wx g1 2 1 (some ⟨g1, 0, none⟩) (2 * P) (zs.map (Value.int .i64)) ∧ OwnV wx g2 2 1 (some ⟨g2, 0, none⟩) 2 (st.map (Value.int .i64)) ∧ (w1.heap.size ≤ g1 ∧ w1.heap.size ≤ g2 ∧ g1 ≠ g2) ∧ w1.grownBy wx (some (w.heap.size + 1)))
  case first => as_aux_lemma =>
    go_region_with (first
      | (go_at_call 18; (with_reducible refine Calls.mono (copyNumbers_any A1 (2 * P) c1 zs _ ?_ (by omega)) ?_); (exact S1.out.later (by have := HBW.out; (repeat' (first | (with_reducible exact Below.refl _ _) | (with_reducible assumption) | (with_reducible refine Below.alloc ?_ ?_ _) | (with_reducible refine Below.drew ?_) | (with_reducible refine belowDrewN ?_ _) | (with_reducible refine Below.setCell ?_ ?_ _) | (with_reducible refine Below.via (by with_reducible assumption) ?_ ?_) | (with_reducible refine Below.viaD (by with_reducible assumption) ?_ ?_) | (with_reducible exact Below.size (by with_reducible assumption)) | go_size | (with_reducible refine Nat.le_trans ?_ (Below.size (by with_reducible assumption))) | (with_reducible refine Nat.le_trans ?_ (sizeAlloc _ _)) | (with_reducible refine Nat.le_trans ?_ (sizeSet _ _ _)) | (with_reducible refine Nat.le_trans ?_ (sizeDrew _)))))); rintro e w2 ⟨Ax, g1, q1, rfl, hg1, hnq1, hcq1, o1, hb2⟩; obtain ⟨hc2, hf2, hl2, hz2'⟩ := bfacts hb2; (try simp only [World.size_alloc, World.size_setCell, World.size_drew] at hc2 hf2 hl2 hz2' hg1))
      | (go_at_call 18; (with_reducible refine Calls.mono (copyNumbers_any A2 2 c2 st _ ?_ (by omega)) ?_); (exact S2.out.later (by have := HBW.out; (repeat' (first | (with_reducible exact Below.refl _ _) | (with_reducible assumption) | (with_reducible refine Below.alloc ?_ ?_ _) | (with_reducible refine Below.drew ?_) | (with_reducible refine belowDrewN ?_ _) | (with_reducible refine Below.setCell ?_ ?_ _) | (with_reducible refine Below.via (by with_reducible assumption) ?_ ?_) | (with_reducible refine Below.viaD (by with_reducible assumption) ?_ ?_) | (with_reducible exact Below.size (by with_reducible assumption)) | go_size | (with_reducible refine Nat.le_trans ?_ (Below.size (by with_reducible assumption))) | (with_reducible refine Nat.le_trans ?_ (sizeAlloc _ _)) | (with_reducible refine Nat.le_trans ?_ (sizeSet _ _ _)) | (with_reducible refine Nat.le_trans ?_ (sizeDrew _)))))); rintro e w3 ⟨Ay, g2, q2, rfl, hg2, hnq2, hcq2, o2, hb3⟩; obtain ⟨hc3, hf3, hl3, hz3'⟩ := bfacts hb3; (try simp only [World.size_alloc, World.size_setCell, World.size_drew] at hc3 hf3 hl3 hz3' hg2)))
    all_goals
      have hg1' := o1.lt (by omega)
      have hg2' := o2.lt (by omega)
      obtain ⟨rfl, -⟩ := o1.blk (by omega)
      obtain ⟨rfl, -⟩ := o2.blk (by omega)
      go_wp2_with fail
      go_meet
      refine ⟨rfl, g1, q1, g2, q2, ?_, ?_, ?_, ?_, ?_, ?_, ⟨by omega, by omega, by omega⟩, ?_⟩
      rotate_left 4
      · (repeat (first | (with_reducible refine OwnV.dr ?_) | (refine OwnV.setO ?_ _ _ (by show _ ≠ w.heap.size + 1; omega)))); first | exact o1 | exact o1.later hb3 | exact o1.later (Below.undrew hb3)
      · (repeat (first | (with_reducible refine OwnV.dr ?_) | (refine OwnV.setO ?_ _ _ (by show _ ≠ w.heap.size + 1; omega)))); first | exact o2 | exact o2.later hb2 | exact o2.later (Below.undrew hb2)
      · (repeat (first | (with_reducible refine grown_dr ?_) | (refine only_setCell ?_ (.inl rfl) _))); refine grown_of _ ?_; (repeat' (first | (with_reducible exact Below.refl _ _) | (with_reducible assumption) | (with_reducible refine Below.alloc ?_ ?_ _) | (with_reducible refine Below.drew ?_) | (with_reducible refine belowDrewN ?_ _) | (with_reducible refine Below.setCell ?_ ?_ _) | (with_reducible refine Below.via (by with_reducible assumption) ?_ ?_) | (with_reducible refine Below.viaD (by with_reducible assumption) ?_ ?_) | (with_reducible exact Below.size (by with_reducible assumption)) | go_size | (with_reducible refine Nat.le_trans ?_ (Below.size (by with_reducible assumption))) | (with_reducible refine Nat.le_trans ?_ (sizeAlloc _ _)) | (with_reducible refine Nat.le_trans ?_ (sizeSet _ _ _)) | (with_reducible refine Nat.le_trans ?_ (sizeDrew _))))
      · exact (Blk.cell (Blk.set (Blk.set (HKB.out.later (by (repeat' (first | (with_reducible exact Below.refl _ _) | (with_reducible assumption) | (with_reducible refine Below.alloc ?_ ?_ _) | (with_reducible refine Below.drew ?_) | (with_reducible refine belowDrewN ?_ _) | (with_reducible refine Below.setCell ?_ ?_ _) | (with_reducible refine Below.via (by with_reducible assumption) ?_ ?_) | (with_reducible refine Below.viaD (by with_reducible assumption) ?_ ?_) | (with_reducible exact Below.size (by with_reducible assumption)) | go_size | (with_reducible refine Nat.le_trans ?_ (Below.size (by with_reducible assumption))) | (with_reducible refine Nat.le_trans ?_ (sizeAlloc _ _)) | (with_reducible refine Nat.le_trans ?_ (sizeSet _ _ _)) | (with_reducible refine Nat.le_trans ?_ (sizeDrew _)))))) 0 _) 1 _) 0).trans rfl
      · exact (Blk.cell (Blk.set (Blk.set (HKB.out.later (by (repeat' (first | (with_reducible exact Below.refl _ _) | (with_reducible assumption) | (with_reducible refine Below.alloc ?_ ?_ _) | (with_reducible refine Below.drew ?_) | (with_reducible refine belowDrewN ?_ _) | (with_reducible refine Below.setCell ?_ ?_ _) | (with_reducible refine Below.via (by with_reducible assumption) ?_ ?_) | (with_reducible refine Below.viaD (by with_reducible assumption) ?_ ?_) | (with_reducible exact Below.size (by with_reducible assumption)) | go_size | (with_reducible refine Nat.le_trans ?_ (Below.size (by with_reducible assumption))) | (with_reducible refine Nat.le_trans ?_ (sizeAlloc _ _)) | (with_reducible refine Nat.le_trans ?_ (sizeSet _ _ _)) | (with_reducible refine Nat.le_trans ?_ (sizeDrew _)))))) 0 _) 1 _) 1).trans rfl
      · exact (Blk.cell (Blk.set (Blk.set (HKB.out.later (by (repeat' (first | (with_reducible exact Below.refl _ _) | (with_reducible assumption) | (with_reducible refine Below.alloc ?_ ?_ _) | (with_reducible refine Below.drew ?_) | (with_reducible refine belowDrewN ?_ _) | (with_reducible refine Below.setCell ?_ ?_ _) | (with_reducible refine Below.via (by with_reducible assumption) ?_ ?_) | (with_reducible refine Below.viaD (by with_reducible assumption) ?_ ?_) | (with_reducible exact Below.size (by with_reducible assumption)) | go_size | (with_reducible refine Nat.le_trans ?_ (Below.size (by with_reducible assumption))) | (with_reducible refine Nat.le_trans ?_ (sizeAlloc _ _)) | (with_reducible refine Nat.le_trans ?_ (sizeSet _ _ _)) | (with_reducible refine Nat.le_trans ?_ (sizeDrew _)))))) 0 _) 1 _) 2).trans rfl
      · exact (Blk.cell (Blk.set (Blk.set (HKB.out.later (by (repeat' (first | (with_reducible exact Below.refl _ _) | (with_reducible assumption) | (with_reducible refine Below.alloc ?_ ?_ _) | (with_reducible refine Below.drew ?_) | (with_reducible refine belowDrewN ?_ _) | (with_reducible refine Below.setCell ?_ ?_ _) | (with_reducible refine Below.via (by with_reducible assumption) ?_ ?_) | (with_reducible refine Below.viaD (by with_reducible assumption) ?_ ?_) | (with_reducible exact Below.size (by with_reducible assumption)) | go_size | (with_reducible refine Nat.le_trans ?_ (Below.size (by with_reducible assumption))) | (with_reducible refine Nat.le_trans ?_ (sizeAlloc _ _)) | (with_reducible refine Nat.le_trans ?_ (sizeSet _ _ _)) | (with_reducible refine Nat.le_trans ?_ (sizeDrew _)))))) 0 _) 1 _) 3).trans rfl
  case rest => as_aux_lemma =>
    obtain ⟨rfl, g1, q1, g2, q2, e0, e1, e2, e3, o1, o2, ⟨hg1, hg2, hne⟩, hgr⟩ := hcut
    have hlg1 := o1.lt (by omega)
    have hlg2 := o2.lt (by omega)
    obtain ⟨-, rest1, b1⟩ := o1.blk (by omega)
    obtain ⟨-, rest2, b2⟩ := o2.blk (by omega)
    have B1 : Hid (Blk wc g1 2 (arR (setZ zs l 0) rest1)) := b1
    have hst : stP st p (gainV zs l 0) = st := stP_zero (by omega)
    have B2 : Hid (Blk wc g2 2 (arR (stP st p (gainV zs l 0)) rest2)) := by unfold Hid; rw [hst]; exact b2
    have OL : Hid (OwnV wc gl 2 1 A' l.length (l.map (Value.int .i64))) := HOW.out.apart hgr (fun _ => by omega)
    have hgll : 0 < l.length → gl < w1.heap.size := fun h => HOW.out.lt h
    have K6 : Hid (Blk wc (w.heap.size + 2) 28 #[.slice none 0 0, .slice none 0 0, .int .i64 0, .int .i64 0]) := by
      exact (hgr.block _ HK6.out.lt (by simp)).trans HK6.out
    have hbc := hgr.size
    have HBC : Hid (Below w.heap.size w wc) := grown_below HBW.out hgr (by omega) HBW.out.size
    clear b1 b2 o1 o2 hst hgr k0 k1 d0 d1 d2 d3
    go_wp2_with fail
    go_loopw [24] (fun i wr => ∃ k : Nat, k ≤ l.length ∧ i = .int .i64 k ∧ (wr.cell? ⟨w.heap.size + 1, 0, none⟩ = some (.slice (some ⟨g1, 0, none⟩) (2 * P) q1) ∧ wr.cell? ⟨w.heap.size + 1, 1, none⟩ = some (.slice (some ⟨g2, 0, none⟩) 2 q2) ∧ wr.cell? ⟨w.heap.size + 1, 2, none⟩ = some (.int .i64 last) ∧ wr.cell? ⟨w.heap.size + 1, 3, none⟩ = some (.int .i64 laps)) ∧ Blk wr g1 2 (arR (setZ zs l k) rest1) ∧ Blk wr g2 2 (arR (stP st p (gainV zs l k)) rest2) ∧ OwnV wr gl 2 1 A' l.length (l.map (Value.int .i64)) ∧ Blk wr (w.heap.size + 2) 28 #[.slice none 0 0, .slice none 0 0, .int .i64 0, .int .i64 0] ∧ Below w.heap.size w wr) (fun i _ => l.length - (intOf i).toNat)
    case atStart => exact ⟨0, Nat.zero_le _, rfl, ⟨e0, e1, e2, e3⟩, B1.out, B2.out, OL.out, K6.out, HBC.out⟩
    case round =>
      clear e0 e1 e2 e3
      obtain ⟨k, hk, rfl, ⟨e0, e1, e2, e3⟩, b1, b2, ol, k6, hbl⟩ := hrel
      have HE := Lib.hid (And.intro (And.intro e0 e1) (And.intro e2 e3))
      have HBL := Lib.hid hbl
      have HB1 := Lib.hid b1
      have HB2 := Lib.hid b2
      have HOL := Lib.hid ol
      have HK := Lib.hid k6
      have t1 := b1.lt
      have t2 := b2.lt
      have t3 := k6.lt
      have t4 := cell_lt e0
      obtain ⟨v0, v1⟩ := HB.out k hk
      by_cases hlt : k < l.length
      · obtain ⟨bl, oll, x, hbe, hbl', HX, hxc⟩ := ol.sl.int hlt
        obtain ⟨hA, -⟩ := ol.blk (by omega)
        have hge : gl < w1.heap.size := hgll (by omega)
        rw [hA] at hbe
        obtain ⟨m, hm, hm2⟩ := HI.out.2 k hlt
        obtain rfl : (m : Int) = x := hm.symm.trans HX.out
        obtain ⟨z, hz⟩ : ∃ z, zs.getD m 0 = z := ⟨_, rfl⟩
        obtain ⟨z0, z1⟩ := okL_bd HO.out (show m < zs.length by omega)
        rw [hz] at z0 z1
        have hzk : (setZ zs l k).getD m 0 = z := by
          have := setZ_at (zs := zs) HN.out HI.out hlt k (Nat.le_refl _)
          rw [hm, Int.toNat_natCast] at this
          exact this.trans hz
        have c1 := (b1.cell m).trans (arR_at rest1 (show m < (setZ zs l k).length by rw [setZ_len]; omega))
        rw [hzk] at c1
        have f1 := b1.free m
        obtain ⟨s0, s1⟩ := okL_bd HO2.out (show p < st.length by omega)
        have c2 := (b2.cell p).trans (arR_at rest2 (show p < (stP st p (gainV zs l k)).length by rw [stP_len]; omega))
        rw [stP_at _ (by omega)] at c2
        have f2 := b2.free p
        have HG : Hid (gainV zs l (k + 1) = gainV zs l k + z) := by unfold Hid; rw [gainV, hm, Int.toNat_natCast, hz]
        have HS : Hid (setZ zs l (k + 1) = (setZ zs l k).set m 0) := by unfold Hid; rw [setZ, hm, Int.toNat_natCast]
        clear b1 b2 ol k6 hbl hzk hm hz
        revert HB2 c2 HG v0 v1 s0 s1
        generalize hgu : gainV zs l k = u
        generalize hss : st.getD p 0 = s
        intro HB2 v0 v1 s0 s1 c2 HG
        have hw1 : IntKind.i64.wrap (s + u + z) = s + u + z := IntWalk.i64_in _ (by omega)
        have hne' : g2 ≠ g1 := Ne.symm hne
        have hnb1 : w.heap.size + 1 ≠ g2 := by omega
        have hnb2 : w.heap.size + 1 ≠ g1 := by omega
        injection hbe with hbe
        injection hbe with hbe1 hbe2
        subst hbe1 hbe2
        subst hA
        rw [Nat.zero_add] at hxc
        go_wp2_with fail
        go_region
        go_wp2_with fail
        go_roundw
        case rel =>
          refine ⟨k + 1, by omega, by go_num, ⟨cell_set2d HE.out.1.1 hnb1 hnb2, cell_set2d HE.out.1.2 hnb1 hnb2, cell_set2d HE.out.2.1 hnb1 hnb2, cell_set2d HE.out.2.2 hnb1 hnb2⟩, ?_, ?_, ?_, ?_, ?_⟩
          · rw [HS.out, ← arR_set rest1 (show m < (setZ zs l k).length by rw [setZ_len]; omega)]
            exact Blk.drx (Blk.set (Blk.stO HB1.out _ _ (by show g1 ≠ g2; exact hne)) m _)
          · rw [HG.out, ← stP_step u z (show p < st.length by omega), hss, ← arR_set rest2 (show p < (stP st p u).length by rw [stP_len]; omega)]
            exact Blk.drx (Blk.stO (Blk.set HB2.out p _) _ _ (by show g2 ≠ g1; exact hne'))
          · exact OwnV.dr (OwnV.setO (OwnV.setO HOL.out _ _ (by show gl ≠ g2; omega)) _ _ (by show gl ≠ g1; omega))
          · exact Blk.drx (Blk.stO (Blk.stO HK.out _ _ (by show w.heap.size + 2 ≠ g2; omega)) _ _ (by show w.heap.size + 2 ≠ g1; omega))
          · have := HBL.out
            (repeat' (first | (with_reducible exact Below.refl _ _) | (with_reducible assumption) | (with_reducible refine Below.alloc ?_ ?_ _) | (with_reducible refine Below.drew ?_) | (with_reducible refine belowDrewN ?_ _) | (with_reducible refine Below.setCell ?_ ?_ _) | (with_reducible refine Below.via (by with_reducible assumption) ?_ ?_) | (with_reducible refine Below.viaD (by with_reducible assumption) ?_ ?_) | (with_reducible exact Below.size (by with_reducible assumption)) | go_size | (with_reducible refine Nat.le_trans ?_ (Below.size (by with_reducible assumption))) | (with_reducible refine Nat.le_trans ?_ (sizeAlloc _ _)) | (with_reducible refine Nat.le_trans ?_ (sizeSet _ _ _)) | (with_reducible refine Nat.le_trans ?_ (sizeDrew _))))
        case measure => first | (simp [intOf]; done) | (simp [intOf]; omega)
      · obtain rfl : k = l.length := by omega
        have x0 := k6.cell 0
        have x1 := k6.cell 1
        have x2 := k6.cell 2
        have x3 := k6.cell 3
        have y0 := k6.free 0
        have y1 := k6.free 1
        have y2 := k6.free 2
        have y3 := k6.free 3
        simp only [List.getElem?_toArray, List.getElem?_cons_zero, List.getElem?_cons_succ] at x0 x1 x2 x3
        have P1 : Hid (OwnV wr g1 2 1 (some ⟨g1, 0, none⟩) (2 * P) ((setZ zs l l.length).map (Value.int .i64))) := ⟨by rw [List.length_map, setZ_len]; omega, fun _ => ⟨rfl, rest1, b1⟩⟩
        have P2 : Hid (OwnV wr g2 2 1 (some ⟨g2, 0, none⟩) 2 ((stP st p (gainV zs l l.length)).map (Value.int .i64))) := ⟨by rw [List.length_map, stP_len]; omega, fun _ => ⟨rfl, rest2, b2⟩⟩
        obtain ⟨hq0, hq1, hq2, hq3⟩ := ress_cells (g := w.heap.size + 1 + 1) k6
        clear b1 b2 ol k6 hbl
        go_wp2_with fail
        (try simp only [Exit.inBlock, Exit.then])
        refine bodyPost_ret (by simp [results, Try.results17, go_sem, hq0, hq1, hq2, hq3]; try rfl) rfl ?_
        refine ⟨g1, q1, g2, q2, rfl, ?_, ?_, ⟨by omega, by omega, hne, by simp only [World.size_setCell]; omega, by simp only [World.size_setCell]; omega⟩, by have := HBL.out; (repeat' (first | (with_reducible exact Below.refl _ _) | (with_reducible assumption) | (with_reducible refine Below.alloc ?_ ?_ _) | (with_reducible refine Below.drew ?_) | (with_reducible refine belowDrewN ?_ _) | (with_reducible refine Below.setCell ?_ ?_ _) | (with_reducible refine Below.via (by with_reducible assumption) ?_ ?_) | (with_reducible refine Below.viaD (by with_reducible assumption) ?_ ?_) | (with_reducible exact Below.size (by with_reducible assumption)) | go_size | (with_reducible refine Nat.le_trans ?_ (Below.size (by with_reducible assumption))) | (with_reducible refine Nat.le_trans ?_ (sizeAlloc _ _)) | (with_reducible refine Nat.le_trans ?_ (sizeSet _ _ _)) | (with_reducible refine Nat.le_trans ?_ (sizeDrew _))))⟩
        · (repeat (refine OwnV.setO ?_ _ _ (by show _ ≠ w.heap.size + 1 + 1; omega))); exact P1.out
        · (repeat (refine OwnV.setO ?_ _ _ (by show _ ≠ w.heap.size + 1 + 1; omega))); exact P2.out
end Go.Proofs.Ytcfbihponecblaa
