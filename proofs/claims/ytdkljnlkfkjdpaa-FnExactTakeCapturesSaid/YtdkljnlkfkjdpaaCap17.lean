/- TakeCaptures: both functions. Conditions: lengths below 2^20. -/
import Derived.Test.YtdkljnlkfkjdpaaCap16
namespace Go.Proofs.Ytdkljnlkfkjdpaa
set_option linter.unusedSimpArgs false
set_option linter.unusedVariables false
open Go.RowKit

theorem pairDI {x x' : SownD} {z z' : Int} (h : (x', z') = (x, z)) : x' = x ∧ z' = z := by
  injection h with h1 h2
  exact ⟨h1, h2⟩
def takeR (r : Ru) (d : SownD) (pl : Int) : SownD × Int := if okSown r d pl then (⟨setZ d.pits (capR r d pl) (capR r d pl).length, stP d.stores pl.toNat (gainV d.pits (capR r d pl) (capR r d pl).length), d.last, d.laps⟩, 0) else (⟨[], [], 0, 0⟩, 1)
def TpPost (d' : SownD) (code : Int) (w : World) (e : Ending) (w' : World) : Prop :=
  ∃ (B1 : Option Addr) (g1 q1 : Nat) (B2 : Option Addr) (g2 q2 : Nat), e = .returned (.tuple #[.agg #[.slice B1 d'.pits.length q1, .slice B2 d'.stores.length q2, .int .i64 d'.last, .int .i64 d'.laps], .int .i64 code]) ∧ OwnV w' g1 2 1 B1 d'.pits.length (d'.pits.map (Value.int .i64)) ∧ OwnV w' g2 2 1 B2 d'.stores.length (d'.stores.map (Value.int .i64)) ∧ (w.heap.size ≤ g1 ∧ w.heap.size ≤ g2 ∧ g1 ≠ g2 ∧ g1 < w'.heap.size ∧ g2 < w'.heap.size) ∧ Below w.heap.size w w'
set_option maxRecDepth 100000 in
set_option maxHeartbeats 2000000 in
theorem TakeCaptures_any (r : Ru) (A1 A2 : Option Addr) (n1 c1 n2 c2 : Nat) (d : SownD) (pl : Int) (d' : SownD) (code : Int) (w : World) (s1 : Sl w w.heap.size 1 A1 n1 (d.pits.map (Value.int .i64))) (s2 : Sl w w.heap.size 1 A2 n2 (d.stores.map (Value.int .i64))) (hc : n1 ≤ c1) (hcm : c1 ≤ 9223372036854775807) (hsz : szSown d ≤ 1048576) (hq : takeR r d pl = (d', code)) :
    Calls Try.prog 24 #[.agg #[.int .i64 r.p, .int .i64 r.s, .bool r.st, .bool r.sk, .bool r.re, .bool r.fe, .bool r.ag, .int .i64 r.ca, .int .i64 r.sl], .agg #[.slice A1 n1 c1, .slice A2 n2 c2, .int .i64 d.last, .int .i64 d.laps], .int .i64 pl] w (TpPost d' code w) := by
  have HV : Hid (∀ w' q, Below w.heap.size w w' → okSown r d pl = q → Calls Try.prog 32 #[.agg #[.int .i64 r.p, .int .i64 r.s, .bool r.st, .bool r.sk, .bool r.re, .bool r.fe, .bool r.ag, .int .i64 r.ca, .int .i64 r.sl], .agg #[.slice A1 n1 c1, .slice A2 n2 c2, .int .i64 d.last, .int .i64 d.laps], .int .i64 pl] w' fun e w'' => e = .returned (.bool q) ∧ Below w'.heap.size w' w'') := fun w' q hb h => ValidSown_any r A1 A2 n1 c1 n2 c2 d pl q w' (s1.later hb) (s2.later hb) hsz h
  have hz1 := s1.ints
  have hz2 := s2.ints
  unfold takeR at hq
  cases g1 : okSown r d pl
  case false =>
    rw [g1, if_neg (by simp)] at hq
    obtain ⟨rfl, rfl⟩ := pairDI hq
    have G1 := Lib.hid g1
    clear g1 hq s1 s2
    go_enter Try.func24, Try.ntmps24
    go_wp2_with fail
    with_reducible refine Calls.mono (HV.out _ false ?_ G1.out) ?_
    · (repeat' (first | (with_reducible exact Below.refl _ _) | (with_reducible assumption) | (with_reducible refine Below.alloc ?_ ?_ _) | (with_reducible refine Below.drew ?_) | (with_reducible refine belowDrewN ?_ _) | (with_reducible refine Below.setCell ?_ ?_ _) | (with_reducible refine Below.via (by with_reducible assumption) ?_ ?_) | (with_reducible refine Below.viaD (by with_reducible assumption) ?_ ?_) | (with_reducible exact Below.size (by with_reducible assumption)) | go_size | (with_reducible refine Nat.le_trans ?_ (Below.size (by with_reducible assumption))) | (with_reducible refine Nat.le_trans ?_ (sizeAlloc _ _)) | (with_reducible refine Nat.le_trans ?_ (sizeSet _ _ _)) | (with_reducible refine Nat.le_trans ?_ (sizeDrew _))))
    rintro e w1 ⟨rfl, hb1⟩
    have K6 : Blk w1 (w.heap.size + 2) 31 #[.slice none 0 0, .slice none 0 0, .int .i64 0, .int .i64 0] := by
      have K := (Blk.new ((w.alloc (.cells #[.int .i64 r.p, .int .i64 r.s, .bool r.st, .bool r.sk, .bool r.re, .bool r.fe, .bool r.ag, .int .i64 r.ca, .int .i64 r.sl] 29)).alloc (.cells #[.slice A1 n1 c1, .slice A2 n2 c2, .int .i64 d.last, .int .i64 d.laps] 31)) 31 #[.slice none 0 0, .slice none 0 0, .int .i64 0, .int .i64 0]).later hb1
      simp only [World.size_alloc] at K
      exact K
    have HB1 : Hid (Below w.heap.size w w1) := by unfold Hid; (repeat' (first | (with_reducible exact Below.refl _ _) | (with_reducible assumption) | (with_reducible refine Below.alloc ?_ ?_ _) | (with_reducible refine Below.drew ?_) | (with_reducible refine belowDrewN ?_ _) | (with_reducible refine Below.setCell ?_ ?_ _) | (with_reducible refine Below.via (by with_reducible assumption) ?_ ?_) | (with_reducible refine Below.viaD (by with_reducible assumption) ?_ ?_) | (with_reducible exact Below.size (by with_reducible assumption)) | go_size | (with_reducible refine Nat.le_trans ?_ (Below.size (by with_reducible assumption))) | (with_reducible refine Nat.le_trans ?_ (sizeAlloc _ _)) | (with_reducible refine Nat.le_trans ?_ (sizeSet _ _ _)) | (with_reducible refine Nat.le_trans ?_ (sizeDrew _))))
    have hbs := HB1.out.size
    clear hb1
    have x0 := K6.cell 0
    have x1 := K6.cell 1
    have x2 := K6.cell 2
    have x3 := K6.cell 3
    have y0 := K6.free 0
    have y1 := K6.free 1
    have y2 := K6.free 2
    have y3 := K6.free 3
    simp only [List.getElem?_toArray, List.getElem?_cons_zero, List.getElem?_cons_succ] at x0 x1 x2 x3
    have hlt6 := K6.lt
    obtain ⟨hq0, hq1, hq2, hq3⟩ := ress_cells (g := w.heap.size + 1 + 1) K6
    clear K6
    go_wp2_with fail
    (try simp only [Exit.inBlock, Exit.then])
    refine bodyPost_ret (by simp [results, Try.results24, go_sem, hq0, hq1, hq2, hq3]; try rfl) rfl ?_
    refine ⟨none, w.heap.size, 0, none, w.heap.size + 1, 0, rfl, OwnV.none _ _ _ _ _, OwnV.none _ _ _ _ _, ⟨by omega, by omega, by omega, by simp only [World.size_setCell]; omega, by simp only [World.size_setCell]; omega⟩, by have := HB1.out; (repeat' (first | (with_reducible exact Below.refl _ _) | (with_reducible assumption) | (with_reducible refine Below.alloc ?_ ?_ _) | (with_reducible refine Below.drew ?_) | (with_reducible refine belowDrewN ?_ _) | (with_reducible refine Below.setCell ?_ ?_ _) | (with_reducible refine Below.via (by with_reducible assumption) ?_ ?_) | (with_reducible refine Below.viaD (by with_reducible assumption) ?_ ?_) | (with_reducible exact Below.size (by with_reducible assumption)) | go_size | (with_reducible refine Nat.le_trans ?_ (Below.size (by with_reducible assumption))) | (with_reducible refine Nat.le_trans ?_ (sizeAlloc _ _)) | (with_reducible refine Nat.le_trans ?_ (sizeSet _ _ _)) | (with_reducible refine Nat.le_trans ?_ (sizeDrew _))))⟩
  case true =>
    rw [g1, if_pos rfl] at hq
    obtain ⟨P, p, hP, h2, h8, hn, hn', hd, hp, ho, ho', hk⟩ := okSown_of g1
    have hn1 : n1 = 2 * P := by omega
    have hn2 : n2 = 2 := by omega
    have hcr : capR r d pl = capL P p r.ca r.sl d.last d.pits := by rw [capR, hP, hd, Int.toNat_natCast, Int.toNat_natCast]
    obtain ⟨l, hl⟩ : ∃ l, capL P p r.ca r.sl d.last d.pits = l := ⟨_, rfl⟩
    rw [hcr, hl, hd, Int.toNat_natCast] at hq
    obtain ⟨rfl, rfl⟩ := pairDI hq
    have HC : Hid (∀ w', Below w.heap.size w w' → Calls Try.prog 40 #[.agg #[.int .i64 r.p, .int .i64 r.s, .bool r.st, .bool r.sk, .bool r.re, .bool r.fe, .bool r.ag, .int .i64 r.ca, .int .i64 r.sl], .agg #[.slice A1 n1 c1, .slice A2 n2 c2, .int .i64 d.last, .int .i64 d.laps], .int .i64 p] w' (TcPost n1 2 (setZ d.pits l l.length) (stP d.stores p (gainV d.pits l l.length)) d.last d.laps w')) := fun w' hb => takeCaptures_any r P p d.last d.pits d.stores A1 A2 n1 c1 n2 c2 d.laps l w' (s1.later hb) (s2.later hb) hP h2 h8 hn1 hn2 hc hcm hp hk ho ho' hl
    rw [hd] at HV g1
    have G1 := Lib.hid g1
    subst hd
    have HN1 := Lib.hid hn1
    have HN := Lib.hid hn
    have HN' := Lib.hid hn'
    clear g1 hq hl hcr s1 s2 hP ho ho' hk hn hn' hn1 hn2 hc
    go_enter Try.func24, Try.ntmps24
    go_wp2_with fail
    with_reducible refine Calls.mono (HV.out _ true ?_ G1.out) ?_
    · (repeat' (first | (with_reducible exact Below.refl _ _) | (with_reducible assumption) | (with_reducible refine Below.alloc ?_ ?_ _) | (with_reducible refine Below.drew ?_) | (with_reducible refine belowDrewN ?_ _) | (with_reducible refine Below.setCell ?_ ?_ _) | (with_reducible refine Below.via (by with_reducible assumption) ?_ ?_) | (with_reducible refine Below.viaD (by with_reducible assumption) ?_ ?_) | (with_reducible exact Below.size (by with_reducible assumption)) | go_size | (with_reducible refine Nat.le_trans ?_ (Below.size (by with_reducible assumption))) | (with_reducible refine Nat.le_trans ?_ (sizeAlloc _ _)) | (with_reducible refine Nat.le_trans ?_ (sizeSet _ _ _)) | (with_reducible refine Nat.le_trans ?_ (sizeDrew _))))
    rintro e w1 ⟨rfl, hb1⟩
    have HB1 : Hid (Below w.heap.size w w1) := by unfold Hid; (repeat' (first | (with_reducible exact Below.refl _ _) | (with_reducible assumption) | (with_reducible refine Below.alloc ?_ ?_ _) | (with_reducible refine Below.drew ?_) | (with_reducible refine belowDrewN ?_ _) | (with_reducible refine Below.setCell ?_ ?_ _) | (with_reducible refine Below.via (by with_reducible assumption) ?_ ?_) | (with_reducible refine Below.viaD (by with_reducible assumption) ?_ ?_) | (with_reducible exact Below.size (by with_reducible assumption)) | go_size | (with_reducible refine Nat.le_trans ?_ (Below.size (by with_reducible assumption))) | (with_reducible refine Nat.le_trans ?_ (sizeAlloc _ _)) | (with_reducible refine Nat.le_trans ?_ (sizeSet _ _ _)) | (with_reducible refine Nat.le_trans ?_ (sizeDrew _))))
    have HBX := Lib.hid hb1
    obtain ⟨hc1, hf1, hl1', hz1'⟩ := bfacts hb1
    clear hb1
    go_wp2_with fail
    with_reducible refine Calls.mono (HC.out _ ?_) ?_
    · exact HB1.out
    rintro e w2 ⟨g1, q1, g2, q2, rfl, o1, o2, ⟨t1, t2, t3, t4, t5⟩, hb2⟩
    have HB2 : Hid (Below w.heap.size w w2) := Below.via hb2 HB1.out HB1.out.size
    have K6 : Blk w2 (w.heap.size + 2) 31 #[.slice none 0 0, .slice none 0 0, .int .i64 0, .int .i64 0] := by
      have K := (Blk.new ((w.alloc (.cells #[.int .i64 r.p, .int .i64 r.s, .bool r.st, .bool r.sk, .bool r.re, .bool r.fe, .bool r.ag, .int .i64 r.ca, .int .i64 r.sl] 29)).alloc (.cells #[.slice A1 n1 c1, .slice A2 n2 c2, .int .i64 d.last, .int .i64 d.laps] 31)) 31 #[.slice none 0 0, .slice none 0 0, .int .i64 0, .int .i64 0]).later (Below.via hb2 HBX.out HBX.out.size)
      simp only [World.size_alloc] at K
      exact K
    have hbs := HB1.out.size
    have hbx := HBX.out.size
    simp only [World.size_alloc] at hbx
    clear hc1 hf1 hl1' hz1'
    have x0 := K6.cell 0
    have x1 := K6.cell 1
    have x2 := K6.cell 2
    have x3 := K6.cell 3
    have y0 := K6.free 0
    have y1 := K6.free 1
    have y2 := K6.free 2
    have y3 := K6.free 3
    simp only [List.getElem?_toArray, List.getElem?_cons_zero, List.getElem?_cons_succ] at x0 x1 x2 x3
    have hlt6 := K6.lt
    obtain ⟨hq0, hq1, hq2, hq3⟩ := ress_cells (g := w.heap.size + 1 + 1) K6
    clear K6
    have O1 := Lib.hid o1
    have O2 := Lib.hid o2
    clear o1 o2 hb2
    go_wp2_with fail
    (try simp only [Exit.inBlock, Exit.then])
    refine bodyPost_ret (by simp [results, Try.results24, go_sem, hq0, hq1, hq2, hq3]; try rfl) rfl ?_
    have e1 : n1 = (setZ d.pits l l.length).length := by have := HN1.out; have := HN.out; rw [setZ_len]; omega
    have e2 : 2 = (stP d.stores p (gainV d.pits l l.length)).length := by have := HN'.out; rw [stP_len]; omega
    refine ⟨_, g1, q1, _, g2, q2, by rw [← e1, ← e2], ?_, ?_, ⟨by omega, by omega, t3, by simp only [World.size_setCell]; omega, by simp only [World.size_setCell]; omega⟩, by have := HB2.out; (repeat' (first | (with_reducible exact Below.refl _ _) | (with_reducible assumption) | (with_reducible refine Below.alloc ?_ ?_ _) | (with_reducible refine Below.drew ?_) | (with_reducible refine belowDrewN ?_ _) | (with_reducible refine Below.setCell ?_ ?_ _) | (with_reducible refine Below.via (by with_reducible assumption) ?_ ?_) | (with_reducible refine Below.viaD (by with_reducible assumption) ?_ ?_) | (with_reducible exact Below.size (by with_reducible assumption)) | go_size | (with_reducible refine Nat.le_trans ?_ (Below.size (by with_reducible assumption))) | (with_reducible refine Nat.le_trans ?_ (sizeAlloc _ _)) | (with_reducible refine Nat.le_trans ?_ (sizeSet _ _ _)) | (with_reducible refine Nat.le_trans ?_ (sizeDrew _))))⟩
    · show OwnV _ g1 _ 1 _ (setZ d.pits l l.length).length _
      rw [← e1]
      (repeat (refine OwnV.setO ?_ _ _ (by show _ ≠ w.heap.size + 1 + 1; omega))); exact O1.out
    · show OwnV _ g2 _ 1 _ (stP d.stores p (gainV d.pits l l.length)).length _
      rw [← e2]
      (repeat (refine OwnV.setO ?_ _ _ (by show _ ≠ w.heap.size + 1 + 1; omega))); exact O2.out
set_option maxRecDepth 100000 in
set_option maxHeartbeats 2000000 in
theorem sTakeCaptures_any (r : Ru) (A1 A2 : Option Addr) (n1 c1 n2 c2 : Nat) (d : SownD) (pl : Int) (d' : SownD) (code : Int) (w : World) (s1 : Sl w w.heap.size 1 A1 n1 (d.pits.map (Value.int .i64))) (s2 : Sl w w.heap.size 1 A2 n2 (d.stores.map (Value.int .i64))) (hsz : szSown d ≤ 1048576) (hq : takeR r d pl = (d', code)) :
    Calls Try.prog 26 #[.agg #[.int .i64 r.p, .int .i64 r.s, .bool r.st, .bool r.sk, .bool r.re, .bool r.fe, .bool r.ag, .int .i64 r.ca, .int .i64 r.sl], .agg #[.slice A1 n1 c1, .slice A2 n2 c2, .int .i64 d.last, .int .i64 d.laps], .int .i64 pl] w (TpPost d' code w) := by
  obtain ⟨RA, SA⟩ := capsAt w r A1 A2 n1 c1 n2 c2 d 29 31 s1 s2
  have HRA : Hid (RuAt (((w.alloc (.cells #[.int .i64 r.p, .int .i64 r.s, .bool r.st, .bool r.sk, .bool r.re, .bool r.fe, .bool r.ag, .int .i64 r.ca, .int .i64 r.sl] 29)).alloc (.cells #[.slice A1 n1 c1, .slice A2 n2 c2, .int .i64 d.last, .int .i64 d.laps] 31)).alloc (.cells #[.slice none 0 0, .slice none 0 0, .int .i64 0, .int .i64 0] 31)) w.heap.size 0 r) := RA.later (boxed_ _ _)
  have HSA : Hid (SownAt (((w.alloc (.cells #[.int .i64 r.p, .int .i64 r.s, .bool r.st, .bool r.sk, .bool r.re, .bool r.fe, .bool r.ag, .int .i64 r.ca, .int .i64 r.sl] 29)).alloc (.cells #[.slice A1 n1 c1, .slice A2 n2 c2, .int .i64 d.last, .int .i64 d.laps] 31)).alloc (.cells #[.slice none 0 0, .slice none 0 0, .int .i64 0, .int .i64 0] 31)) (w.heap.size + 1) 0 A1 n1 c1 A2 n2 c2 d) := SA.later (boxed_ _ _)
  have hz1 := s1.ints
  have hz2 := s2.ints
  clear RA SA
  unfold takeR at hq
  cases g1 : okSown r d pl
  case false =>
    rw [g1, if_neg (by simp)] at hq
    obtain ⟨rfl, rfl⟩ := pairDI hq
    have G1 := Lib.hid g1
    clear g1 hq s1 s2
    go_enter Try.func26, Try.ntmps26
    go_wp2_with fail
    with_reducible refine Calls.mono (l06Ok_any r w.heap.size 0 (w.heap.size + 1) 0 A1 A2 n1 c1 n2 c2 d pl false _ HRA.out HSA.out hsz G1.out) ?_
    rintro e w1 ⟨rfl, hb1⟩
    have K6 : Blk w1 (w.heap.size + 2) 31 #[.slice none 0 0, .slice none 0 0, .int .i64 0, .int .i64 0] := by
      have K := (Blk.new ((w.alloc (.cells #[.int .i64 r.p, .int .i64 r.s, .bool r.st, .bool r.sk, .bool r.re, .bool r.fe, .bool r.ag, .int .i64 r.ca, .int .i64 r.sl] 29)).alloc (.cells #[.slice A1 n1 c1, .slice A2 n2 c2, .int .i64 d.last, .int .i64 d.laps] 31)) 31 #[.slice none 0 0, .slice none 0 0, .int .i64 0, .int .i64 0]).later hb1
      simp only [World.size_alloc] at K
      exact K
    have HB1 : Hid (Below w.heap.size w w1) := by unfold Hid; (repeat' (first | (with_reducible exact Below.refl _ _) | (with_reducible assumption) | (with_reducible refine Below.alloc ?_ ?_ _) | (with_reducible refine Below.drew ?_) | (with_reducible refine belowDrewN ?_ _) | (with_reducible refine Below.setCell ?_ ?_ _) | (with_reducible refine Below.via (by with_reducible assumption) ?_ ?_) | (with_reducible refine Below.viaD (by with_reducible assumption) ?_ ?_) | (with_reducible exact Below.size (by with_reducible assumption)) | go_size | (with_reducible refine Nat.le_trans ?_ (Below.size (by with_reducible assumption))) | (with_reducible refine Nat.le_trans ?_ (sizeAlloc _ _)) | (with_reducible refine Nat.le_trans ?_ (sizeSet _ _ _)) | (with_reducible refine Nat.le_trans ?_ (sizeDrew _))))
    have hbs := HB1.out.size
    clear hb1
    have x0 := K6.cell 0
    have x1 := K6.cell 1
    have x2 := K6.cell 2
    have x3 := K6.cell 3
    have y0 := K6.free 0
    have y1 := K6.free 1
    have y2 := K6.free 2
    have y3 := K6.free 3
    simp only [List.getElem?_toArray, List.getElem?_cons_zero, List.getElem?_cons_succ] at x0 x1 x2 x3
    have hlt6 := K6.lt
    obtain ⟨hq0, hq1, hq2, hq3⟩ := ress_cells (g := w.heap.size + 1 + 1) K6
    clear K6
    go_wp2_with fail
    (try simp only [Exit.inBlock, Exit.then])
    refine bodyPost_ret (by simp [results, Try.results26, go_sem, hq0, hq1, hq2, hq3]; try rfl) rfl ?_
    refine ⟨none, w.heap.size, 0, none, w.heap.size + 1, 0, rfl, OwnV.none _ _ _ _ _, OwnV.none _ _ _ _ _, ⟨by omega, by omega, by omega, by simp only [World.size_setCell]; omega, by simp only [World.size_setCell]; omega⟩, by have := HB1.out; (repeat' (first | (with_reducible exact Below.refl _ _) | (with_reducible assumption) | (with_reducible refine Below.alloc ?_ ?_ _) | (with_reducible refine Below.drew ?_) | (with_reducible refine belowDrewN ?_ _) | (with_reducible refine Below.setCell ?_ ?_ _) | (with_reducible refine Below.via (by with_reducible assumption) ?_ ?_) | (with_reducible refine Below.viaD (by with_reducible assumption) ?_ ?_) | (with_reducible exact Below.size (by with_reducible assumption)) | go_size | (with_reducible refine Nat.le_trans ?_ (Below.size (by with_reducible assumption))) | (with_reducible refine Nat.le_trans ?_ (sizeAlloc _ _)) | (with_reducible refine Nat.le_trans ?_ (sizeSet _ _ _)) | (with_reducible refine Nat.le_trans ?_ (sizeDrew _))))⟩
  case true =>
    rw [g1, if_pos rfl] at hq
    obtain ⟨P, p, hP, h2, h8, hn, hn', hd, hp, ho, ho', hk⟩ := okSown_of g1
    have hn1 : n1 = 2 * P := by omega
    have hn2 : n2 = 2 := by omega
    have hcr : capR r d pl = capL P p r.ca r.sl d.last d.pits := by rw [capR, hP, hd, Int.toNat_natCast, Int.toNat_natCast]
    obtain ⟨l, hl⟩ : ∃ l, capL P p r.ca r.sl d.last d.pits = l := ⟨_, rfl⟩
    rw [hcr, hl, hd, Int.toNat_natCast] at hq
    obtain ⟨rfl, rfl⟩ := pairDI hq
    have HC : Hid (∀ w', RuAt w' w.heap.size 0 r → SownAt w' (w.heap.size + 1) 0 A1 n1 c1 A2 n2 c2 d → Calls Try.prog 42 #[.pointer (some ⟨w.heap.size, 0, none⟩), .pointer (some ⟨w.heap.size + 1, 0, none⟩), .int .i64 p] w' (TcPost n1 2 (setZ d.pits l l.length) (stP d.stores p (gainV d.pits l l.length)) d.last d.laps w')) := fun w' ha hs => l06Take_any r P p w.heap.size 0 (w.heap.size + 1) 0 A1 A2 n1 c1 n2 c2 d l w' ha hs hP h2 h8 hn1 hn2 hp hk ho ho' hl
    rw [hd] at g1
    have G1 := Lib.hid g1
    subst hd
    have HN1 := Lib.hid hn1
    have HN := Lib.hid hn
    have HN' := Lib.hid hn'
    clear g1 hq hl hcr s1 s2 hP ho ho' hk hn hn' hn1 hn2
    go_enter Try.func26, Try.ntmps26
    go_wp2_with fail
    with_reducible refine Calls.mono (l06Ok_any r w.heap.size 0 (w.heap.size + 1) 0 A1 A2 n1 c1 n2 c2 d p true _ HRA.out HSA.out hsz G1.out) ?_
    rintro e w1 ⟨rfl, hb1⟩
    have HB1 : Hid (Below w.heap.size w w1) := by unfold Hid; (repeat' (first | (with_reducible exact Below.refl _ _) | (with_reducible assumption) | (with_reducible refine Below.alloc ?_ ?_ _) | (with_reducible refine Below.drew ?_) | (with_reducible refine belowDrewN ?_ _) | (with_reducible refine Below.setCell ?_ ?_ _) | (with_reducible refine Below.via (by with_reducible assumption) ?_ ?_) | (with_reducible refine Below.viaD (by with_reducible assumption) ?_ ?_) | (with_reducible exact Below.size (by with_reducible assumption)) | go_size | (with_reducible refine Nat.le_trans ?_ (Below.size (by with_reducible assumption))) | (with_reducible refine Nat.le_trans ?_ (sizeAlloc _ _)) | (with_reducible refine Nat.le_trans ?_ (sizeSet _ _ _)) | (with_reducible refine Nat.le_trans ?_ (sizeDrew _))))
    have HBX := Lib.hid hb1
    clear hb1
    go_wp2_with fail
    with_reducible refine Calls.mono (HC.out _ ?_ ?_) ?_
    · exact HRA.out.later HBX.out
    · exact HSA.out.later HBX.out
    rintro e w2 ⟨g1, q1, g2, q2, rfl, o1, o2, ⟨t1, t2, t3, t4, t5⟩, hb2⟩
    have HB2 : Hid (Below w.heap.size w w2) := Below.via hb2 HB1.out HB1.out.size
    have K6 : Blk w2 (w.heap.size + 2) 31 #[.slice none 0 0, .slice none 0 0, .int .i64 0, .int .i64 0] := by
      have K := (Blk.new ((w.alloc (.cells #[.int .i64 r.p, .int .i64 r.s, .bool r.st, .bool r.sk, .bool r.re, .bool r.fe, .bool r.ag, .int .i64 r.ca, .int .i64 r.sl] 29)).alloc (.cells #[.slice A1 n1 c1, .slice A2 n2 c2, .int .i64 d.last, .int .i64 d.laps] 31)) 31 #[.slice none 0 0, .slice none 0 0, .int .i64 0, .int .i64 0]).later (Below.via hb2 HBX.out HBX.out.size)
      simp only [World.size_alloc] at K
      exact K
    have hbs := HB1.out.size
    have hbx := HBX.out.size
    simp only [World.size_alloc] at hbx
    have x0 := K6.cell 0
    have x1 := K6.cell 1
    have x2 := K6.cell 2
    have x3 := K6.cell 3
    have y0 := K6.free 0
    have y1 := K6.free 1
    have y2 := K6.free 2
    have y3 := K6.free 3
    simp only [List.getElem?_toArray, List.getElem?_cons_zero, List.getElem?_cons_succ] at x0 x1 x2 x3
    have hlt6 := K6.lt
    obtain ⟨hq0, hq1, hq2, hq3⟩ := ress_cells (g := w.heap.size + 1 + 1) K6
    clear K6
    have O1 := Lib.hid o1
    have O2 := Lib.hid o2
    clear o1 o2 hb2
    go_wp2_with fail
    (try simp only [Exit.inBlock, Exit.then])
    refine bodyPost_ret (by simp [results, Try.results26, go_sem, hq0, hq1, hq2, hq3]; try rfl) rfl ?_
    have e1 : n1 = (setZ d.pits l l.length).length := by have := HN1.out; have := HN.out; rw [setZ_len]; omega
    have e2 : 2 = (stP d.stores p (gainV d.pits l l.length)).length := by have := HN'.out; rw [stP_len]; omega
    refine ⟨_, g1, q1, _, g2, q2, by rw [← e1, ← e2], ?_, ?_, ⟨by omega, by omega, t3, by simp only [World.size_setCell]; omega, by simp only [World.size_setCell]; omega⟩, by have := HB2.out; (repeat' (first | (with_reducible exact Below.refl _ _) | (with_reducible assumption) | (with_reducible refine Below.alloc ?_ ?_ _) | (with_reducible refine Below.drew ?_) | (with_reducible refine belowDrewN ?_ _) | (with_reducible refine Below.setCell ?_ ?_ _) | (with_reducible refine Below.via (by with_reducible assumption) ?_ ?_) | (with_reducible refine Below.viaD (by with_reducible assumption) ?_ ?_) | (with_reducible exact Below.size (by with_reducible assumption)) | go_size | (with_reducible refine Nat.le_trans ?_ (Below.size (by with_reducible assumption))) | (with_reducible refine Nat.le_trans ?_ (sizeAlloc _ _)) | (with_reducible refine Nat.le_trans ?_ (sizeSet _ _ _)) | (with_reducible refine Nat.le_trans ?_ (sizeDrew _))))⟩
    · show OwnV _ g1 _ 1 _ (setZ d.pits l l.length).length _
      rw [← e1]
      (repeat (refine OwnV.setO ?_ _ _ (by show _ ≠ w.heap.size + 1 + 1; omega))); exact O1.out
    · show OwnV _ g2 _ 1 _ (stP d.stores p (gainV d.pits l l.length)).length _
      rw [← e2]
      (repeat (refine OwnV.setO ?_ _ _ (by show _ ≠ w.heap.size + 1 + 1; omega))); exact O2.out
set_option maxRecDepth 100000 in
set_option maxHeartbeats 1000000 in
theorem heldSown_any (A1 A2 : Option Addr) (n1 c1 n2 c2 : Nat) (la lp k0 : Int) (w : World) (s1 : Sl w w.heap.size 1 A1 n1 ((marks k0 n1).map (Value.int .i64))) (s2 : Sl w w.heap.size 1 A2 n2 ((marks (k0 + (n1 : Nat)) n2).map (Value.int .i64))) (h1 : n1 ≤ 1048576) (h2 : n2 ≤ 1048576) (h0 : 0 ≤ k0) (hk : k0 ≤ 1048576) :
    Calls Try.prog 27 #[.agg #[.slice A1 n1 c1, .slice A2 n2 c2, .int .i64 la, .int .i64 lp], .int .i64 k0] w fun e w' => e = .returned (.int .i64 (k0 + (n1 : Nat) + (n2 : Nat))) ∧ Below w.heap.size w w' := by
  have S1 := Lib.hid s1
  have S2 := Lib.hid s2
  clear s1 s2
  have hk1 : ¬ (k0 + (n1 : Nat) < 0) := by omega
  have hk2 : ¬ (k0 + (n1 : Nat) + (n2 : Nat) < 0) := by omega
  go_enter Try.func27, Try.ntmps27
  go_wp2_with fail
  with_reducible refine Calls.mono (heldInt64S_any A1 n1 c1 k0 _ ?_ (by omega) h0 (by omega)) ?_
  · exact S1.out.later (by (repeat' (first | (with_reducible exact Below.refl _ _) | (with_reducible assumption) | (with_reducible refine Below.alloc ?_ ?_ _) | (with_reducible refine Below.drew ?_) | (with_reducible refine belowDrewN ?_ _) | (with_reducible refine Below.setCell ?_ ?_ _) | (with_reducible refine Below.via (by with_reducible assumption) ?_ ?_) | (with_reducible refine Below.viaD (by with_reducible assumption) ?_ ?_) | (with_reducible exact Below.size (by with_reducible assumption)) | go_size | (with_reducible refine Nat.le_trans ?_ (Below.size (by with_reducible assumption))) | (with_reducible refine Nat.le_trans ?_ (sizeAlloc _ _)) | (with_reducible refine Nat.le_trans ?_ (sizeSet _ _ _)) | (with_reducible refine Nat.le_trans ?_ (sizeDrew _)))))
  rintro e w1 ⟨rfl, rfl⟩
  go_wp2_with fail
  with_reducible refine Calls.mono (heldInt64S_any A2 n2 c2 (k0 + (n1 : Nat)) _ ?_ (by omega) (by omega) (by omega)) ?_
  · exact S2.out.later (by (repeat' (first | (with_reducible exact Below.refl _ _) | (with_reducible assumption) | (with_reducible refine Below.alloc ?_ ?_ _) | (with_reducible refine Below.drew ?_) | (with_reducible refine belowDrewN ?_ _) | (with_reducible refine Below.setCell ?_ ?_ _) | (with_reducible refine Below.via (by with_reducible assumption) ?_ ?_) | (with_reducible refine Below.viaD (by with_reducible assumption) ?_ ?_) | (with_reducible exact Below.size (by with_reducible assumption)) | go_size | (with_reducible refine Nat.le_trans ?_ (Below.size (by with_reducible assumption))) | (with_reducible refine Nat.le_trans ?_ (sizeAlloc _ _)) | (with_reducible refine Nat.le_trans ?_ (sizeSet _ _ _)) | (with_reducible refine Nat.le_trans ?_ (sizeDrew _)))))
  rintro e w2 ⟨rfl, rfl⟩
  go_wp2_with fail
  go_ret
  exact ⟨rfl, by (repeat' (first | (with_reducible exact Below.refl _ _) | (with_reducible assumption) | (with_reducible refine Below.alloc ?_ ?_ _) | (with_reducible refine Below.drew ?_) | (with_reducible refine belowDrewN ?_ _) | (with_reducible refine Below.setCell ?_ ?_ _) | (with_reducible refine Below.via (by with_reducible assumption) ?_ ?_) | (with_reducible refine Below.viaD (by with_reducible assumption) ?_ ?_) | (with_reducible exact Below.size (by with_reducible assumption)) | go_size | (with_reducible refine Nat.le_trans ?_ (Below.size (by with_reducible assumption))) | (with_reducible refine Nat.le_trans ?_ (sizeAlloc _ _)) | (with_reducible refine Nat.le_trans ?_ (sizeSet _ _ _)) | (with_reducible refine Nat.le_trans ?_ (sizeDrew _))))⟩
end Go.Proofs.Ytdkljnlkfkjdpaa
