/- FnCaptures: what is captured goes from the pits that are told into the store: the plain law. Conditions: valid sown seeds. -/
import Derived.Test.YtcfbihponecblaaG22
import Derived.Test.YtcfbihponecblaaG07
import Derived.Deep.DeepMust
/- TakeCaptures: both functions. Conditions: lengths below 2^20. -/
namespace Go.Proofs.Ytcfbihponecblaa
set_option linter.unusedSimpArgs false
set_option linter.unusedVariables false
open Go.RowKit

theorem pairDI {x x' : SownD} {z z' : Int} (h : (x', z') = (x, z)) : x' = x ∧ z' = z := by
  injection h with h1 h2
  exact ⟨h1, h2⟩
def takeR (r : Ru) (d : SownD) (pl : Int) : SownD × Int := if okSown r d pl then (⟨setZ d.pits (capR r d pl) (capR r d pl).length, stP d.stores pl.toNat (gainV d.pits (capR r d pl) (capR r d pl).length), d.last, d.laps⟩, 0) else (⟨[], [], 0, 0⟩, 1)
def TpPost (d' : SownD) (code : Int) (w : World) (e : Ending) (w' : World) : Prop :=
  ∃ (B1 : Option Addr) (g1 q1 : Nat) (B2 : Option Addr) (g2 q2 : Nat), e = .returned (.tuple #[.agg #[.slice B1 d'.pits.length q1, .slice B2 d'.stores.length q2, .int .i64 d'.last, .int .i64 d'.laps], .int .i64 code]) ∧ OwnV w' g1 2 1 B1 d'.pits.length (d'.pits.map (Value.int .i64)) ∧ OwnV w' g2 2 1 B2 d'.stores.length (d'.stores.map (Value.int .i64)) ∧ (w.heap.size ≤ g1 ∧ w.heap.size ≤ g2 ∧ g1 ≠ g2 ∧ g1 < w'.heap.size ∧ g2 < w'.heap.size) ∧ Below w.heap.size w w'
set_option maxRecDepth 100000 in
set_option maxHeartbeats 2000000 in
theorem TakeCaptures_any (r : Ru) (A1 A2 : Option Addr) (n1 c1 n2 c2 : Nat) (d : SownD) (pl : Int) (d' : SownD) (code : Int) (w : World) (s1 : Sl w w.heap.size 1 A1 n1 (d.pits.map (Value.int .i64))) (s2 : Sl w w.heap.size 1 A2 n2 (d.stores.map (Value.int .i64))) (hc : n1 ≤ c1) (hcm : c1 ≤ 9223372036854775807) (hsz : szSown d ≤ 1048576) (hq : takeR r d pl = (d', code)) :
    Calls Try.prog 8 #[.agg #[.int .i64 r.p, .int .i64 r.s, .bool r.st, .bool r.sk, .bool r.re, .bool r.fe, .bool r.ag, .int .i64 r.ca, .int .i64 r.sl], .agg #[.slice A1 n1 c1, .slice A2 n2 c2, .int .i64 d.last, .int .i64 d.laps], .int .i64 pl] w (TpPost d' code w) := by
  have HV : Hid (∀ w' q, Below w.heap.size w w' → okSown r d pl = q → Calls Try.prog 15 #[.agg #[.int .i64 r.p, .int .i64 r.s, .bool r.st, .bool r.sk, .bool r.re, .bool r.fe, .bool r.ag, .int .i64 r.ca, .int .i64 r.sl], .agg #[.slice A1 n1 c1, .slice A2 n2 c2, .int .i64 d.last, .int .i64 d.laps], .int .i64 pl] w' fun e w'' => e = .returned (.bool q) ∧ Below w'.heap.size w' w'') := fun w' q hb h => ValidSown_any r A1 A2 n1 c1 n2 c2 d pl q w' (s1.later hb) (s2.later hb) hsz h
  have hz1 := s1.ints
  have hz2 := s2.ints
  unfold takeR at hq
  cases g1 : okSown r d pl
  case false =>
    rw [g1, if_neg (by simp)] at hq
    obtain ⟨rfl, rfl⟩ := pairDI hq
    have G1 := Lib.hid g1
    clear g1 hq s1 s2
    go_enter Try.func8, Try.ntmps8
    go_wp2_with fail
    with_reducible refine Calls.mono (HV.out _ false ?_ G1.out) ?_
    · (repeat' (first | (with_reducible exact Below.refl _ _) | (with_reducible assumption) | (with_reducible refine Below.alloc ?_ ?_ _) | (with_reducible refine Below.drew ?_) | (with_reducible refine belowDrewN ?_ _) | (with_reducible refine Below.setCell ?_ ?_ _) | (with_reducible refine Below.via (by with_reducible assumption) ?_ ?_) | (with_reducible refine Below.viaD (by with_reducible assumption) ?_ ?_) | (with_reducible exact Below.size (by with_reducible assumption)) | go_size | (with_reducible refine Nat.le_trans ?_ (Below.size (by with_reducible assumption))) | (with_reducible refine Nat.le_trans ?_ (sizeAlloc _ _)) | (with_reducible refine Nat.le_trans ?_ (sizeSet _ _ _)) | (with_reducible refine Nat.le_trans ?_ (sizeDrew _))))
    rintro e w1 ⟨rfl, hb1⟩
    have K6 : Blk w1 (w.heap.size + 2) 28 #[.slice none 0 0, .slice none 0 0, .int .i64 0, .int .i64 0] := by
      have K := (Blk.new ((w.alloc (.cells #[.int .i64 r.p, .int .i64 r.s, .bool r.st, .bool r.sk, .bool r.re, .bool r.fe, .bool r.ag, .int .i64 r.ca, .int .i64 r.sl] 25)).alloc (.cells #[.slice A1 n1 c1, .slice A2 n2 c2, .int .i64 d.last, .int .i64 d.laps] 28)) 28 #[.slice none 0 0, .slice none 0 0, .int .i64 0, .int .i64 0]).later hb1
      simp only [World.size_alloc] at K
      exact K
    have HB1 : Hid (Below w.heap.size w w1) := by unfold Hid; (repeat' (first | (with_reducible exact Below.refl _ _) | (with_reducible assumption) | (with_reducible refine Below.alloc ?_ ?_ _) | (with_reducible refine Below.drew ?_) | (with_reducible refine belowDrewN ?_ _) | (with_reducible refine Below.setCell ?_ ?_ _) | (with_reducible refine Below.via (by with_reducible assumption) ?_ ?_) | (with_reducible refine Below.viaD (by with_reducible assumption) ?_ ?_) | (with_reducible exact Below.size (by with_reducible assumption)) | go_size | (with_reducible refine Nat.le_trans ?_ (Below.size (by with_reducible assumption))) | (with_reducible refine Nat.le_trans ?_ (sizeAlloc _ _)) | (with_reducible refine Nat.le_trans ?_ (sizeSet _ _ _)) | (with_reducible refine Nat.le_trans ?_ (sizeDrew _))))
    have hbs := HB1.out.size
    clear hb1
    have x0 := K6.cell 0
    have x1 := K6.cell 1
    have x2 := K6.cell 2
    have x3 := K6.cell 3
    have y0 := K6.free 0
    have y1 := K6.free 1
    have y2 := K6.free 2
    have y3 := K6.free 3
    simp only [List.getElem?_toArray, List.getElem?_cons_zero, List.getElem?_cons_succ] at x0 x1 x2 x3
    have hlt6 := K6.lt
    obtain ⟨hq0, hq1, hq2, hq3⟩ := ress_cells (g := w.heap.size + 1 + 1) K6
    clear K6
    go_wp2_with fail
    (try simp only [Exit.inBlock, Exit.then])
    refine bodyPost_ret (by simp [results, Try.results8, go_sem, hq0, hq1, hq2, hq3]; try rfl) rfl ?_
    refine ⟨none, w.heap.size, 0, none, w.heap.size + 1, 0, rfl, OwnV.none _ _ _ _ _, OwnV.none _ _ _ _ _, ⟨by omega, by omega, by omega, by simp only [World.size_setCell]; omega, by simp only [World.size_setCell]; omega⟩, by have := HB1.out; (repeat' (first | (with_reducible exact Below.refl _ _) | (with_reducible assumption) | (with_reducible refine Below.alloc ?_ ?_ _) | (with_reducible refine Below.drew ?_) | (with_reducible refine belowDrewN ?_ _) | (with_reducible refine Below.setCell ?_ ?_ _) | (with_reducible refine Below.via (by with_reducible assumption) ?_ ?_) | (with_reducible refine Below.viaD (by with_reducible assumption) ?_ ?_) | (with_reducible exact Below.size (by with_reducible assumption)) | go_size | (with_reducible refine Nat.le_trans ?_ (Below.size (by with_reducible assumption))) | (with_reducible refine Nat.le_trans ?_ (sizeAlloc _ _)) | (with_reducible refine Nat.le_trans ?_ (sizeSet _ _ _)) | (with_reducible refine Nat.le_trans ?_ (sizeDrew _))))⟩
  case true =>
    rw [g1, if_pos rfl] at hq
    obtain ⟨P, p, hP, h2, h8, hn, hn', hd, hp, ho, ho', hk⟩ := okSown_of g1
    have hn1 : n1 = 2 * P := by omega
    have hn2 : n2 = 2 := by omega
    have hcr : capR r d pl = capL P p r.ca r.sl d.last d.pits := by rw [capR, hP, hd, Int.toNat_natCast, Int.toNat_natCast]
    obtain ⟨l, hl⟩ : ∃ l, capL P p r.ca r.sl d.last d.pits = l := ⟨_, rfl⟩
    rw [hcr, hl, hd, Int.toNat_natCast] at hq
    obtain ⟨rfl, rfl⟩ := pairDI hq
    have HC : Hid (∀ w', Below w.heap.size w w' → Calls Try.prog 17 #[.agg #[.int .i64 r.p, .int .i64 r.s, .bool r.st, .bool r.sk, .bool r.re, .bool r.fe, .bool r.ag, .int .i64 r.ca, .int .i64 r.sl], .agg #[.slice A1 n1 c1, .slice A2 n2 c2, .int .i64 d.last, .int .i64 d.laps], .int .i64 p] w' (TcPost n1 2 (setZ d.pits l l.length) (stP d.stores p (gainV d.pits l l.length)) d.last d.laps w')) := fun w' hb => takeCaptures_any r P p d.last d.pits d.stores A1 A2 n1 c1 n2 c2 d.laps l w' (s1.later hb) (s2.later hb) hP h2 h8 hn1 hn2 hc hcm hp hk ho ho' hl
    rw [hd] at HV g1
    have G1 := Lib.hid g1
    subst hd
    have HN1 := Lib.hid hn1
    have HN := Lib.hid hn
    have HN' := Lib.hid hn'
    clear g1 hq hl hcr s1 s2 hP ho ho' hk hn hn' hn1 hn2 hc
    go_enter Try.func8, Try.ntmps8
    go_wp2_with fail
    with_reducible refine Calls.mono (HV.out _ true ?_ G1.out) ?_
    · (repeat' (first | (with_reducible exact Below.refl _ _) | (with_reducible assumption) | (with_reducible refine Below.alloc ?_ ?_ _) | (with_reducible refine Below.drew ?_) | (with_reducible refine belowDrewN ?_ _) | (with_reducible refine Below.setCell ?_ ?_ _) | (with_reducible refine Below.via (by with_reducible assumption) ?_ ?_) | (with_reducible refine Below.viaD (by with_reducible assumption) ?_ ?_) | (with_reducible exact Below.size (by with_reducible assumption)) | go_size | (with_reducible refine Nat.le_trans ?_ (Below.size (by with_reducible assumption))) | (with_reducible refine Nat.le_trans ?_ (sizeAlloc _ _)) | (with_reducible refine Nat.le_trans ?_ (sizeSet _ _ _)) | (with_reducible refine Nat.le_trans ?_ (sizeDrew _))))
    rintro e w1 ⟨rfl, hb1⟩
    have HB1 : Hid (Below w.heap.size w w1) := by unfold Hid; (repeat' (first | (with_reducible exact Below.refl _ _) | (with_reducible assumption) | (with_reducible refine Below.alloc ?_ ?_ _) | (with_reducible refine Below.drew ?_) | (with_reducible refine belowDrewN ?_ _) | (with_reducible refine Below.setCell ?_ ?_ _) | (with_reducible refine Below.via (by with_reducible assumption) ?_ ?_) | (with_reducible refine Below.viaD (by with_reducible assumption) ?_ ?_) | (with_reducible exact Below.size (by with_reducible assumption)) | go_size | (with_reducible refine Nat.le_trans ?_ (Below.size (by with_reducible assumption))) | (with_reducible refine Nat.le_trans ?_ (sizeAlloc _ _)) | (with_reducible refine Nat.le_trans ?_ (sizeSet _ _ _)) | (with_reducible refine Nat.le_trans ?_ (sizeDrew _))))
    have HBX := Lib.hid hb1
    obtain ⟨hc1, hf1, hl1', hz1'⟩ := bfacts hb1
    clear hb1
    go_wp2_with fail
    with_reducible refine Calls.mono (HC.out _ ?_) ?_
    · exact HB1.out
    rintro e w2 ⟨g1, q1, g2, q2, rfl, o1, o2, ⟨t1, t2, t3, t4, t5⟩, hb2⟩
    have HB2 : Hid (Below w.heap.size w w2) := Below.via hb2 HB1.out HB1.out.size
    have K6 : Blk w2 (w.heap.size + 2) 28 #[.slice none 0 0, .slice none 0 0, .int .i64 0, .int .i64 0] := by
      have K := (Blk.new ((w.alloc (.cells #[.int .i64 r.p, .int .i64 r.s, .bool r.st, .bool r.sk, .bool r.re, .bool r.fe, .bool r.ag, .int .i64 r.ca, .int .i64 r.sl] 25)).alloc (.cells #[.slice A1 n1 c1, .slice A2 n2 c2, .int .i64 d.last, .int .i64 d.laps] 28)) 28 #[.slice none 0 0, .slice none 0 0, .int .i64 0, .int .i64 0]).later (Below.via hb2 HBX.out HBX.out.size)
      simp only [World.size_alloc] at K
      exact K
    have hbs := HB1.out.size
    have hbx := HBX.out.size
    simp only [World.size_alloc] at hbx
    clear hc1 hf1 hl1' hz1'
    have x0 := K6.cell 0
    have x1 := K6.cell 1
    have x2 := K6.cell 2
    have x3 := K6.cell 3
    have y0 := K6.free 0
    have y1 := K6.free 1
    have y2 := K6.free 2
    have y3 := K6.free 3
    simp only [List.getElem?_toArray, List.getElem?_cons_zero, List.getElem?_cons_succ] at x0 x1 x2 x3
    have hlt6 := K6.lt
    obtain ⟨hq0, hq1, hq2, hq3⟩ := ress_cells (g := w.heap.size + 1 + 1) K6
    clear K6
    have O1 := Lib.hid o1
    have O2 := Lib.hid o2
    clear o1 o2 hb2
    go_wp2_with fail
    (try simp only [Exit.inBlock, Exit.then])
    refine bodyPost_ret (by simp [results, Try.results8, go_sem, hq0, hq1, hq2, hq3]; try rfl) rfl ?_
    have e1 : n1 = (setZ d.pits l l.length).length := by have := HN1.out; have := HN.out; rw [setZ_len]; omega
    have e2 : 2 = (stP d.stores p (gainV d.pits l l.length)).length := by have := HN'.out; rw [stP_len]; omega
    refine ⟨_, g1, q1, _, g2, q2, by rw [← e1, ← e2], ?_, ?_, ⟨by omega, by omega, t3, by simp only [World.size_setCell]; omega, by simp only [World.size_setCell]; omega⟩, by have := HB2.out; (repeat' (first | (with_reducible exact Below.refl _ _) | (with_reducible assumption) | (with_reducible refine Below.alloc ?_ ?_ _) | (with_reducible refine Below.drew ?_) | (with_reducible refine belowDrewN ?_ _) | (with_reducible refine Below.setCell ?_ ?_ _) | (with_reducible refine Below.via (by with_reducible assumption) ?_ ?_) | (with_reducible refine Below.viaD (by with_reducible assumption) ?_ ?_) | (with_reducible exact Below.size (by with_reducible assumption)) | go_size | (with_reducible refine Nat.le_trans ?_ (Below.size (by with_reducible assumption))) | (with_reducible refine Nat.le_trans ?_ (sizeAlloc _ _)) | (with_reducible refine Nat.le_trans ?_ (sizeSet _ _ _)) | (with_reducible refine Nat.le_trans ?_ (sizeDrew _))))⟩
    · show OwnV _ g1 _ 1 _ (setZ d.pits l l.length).length _
      rw [← e1]
      (repeat (refine OwnV.setO ?_ _ _ (by show _ ≠ w.heap.size + 1 + 1; omega))); exact O1.out
    · show OwnV _ g2 _ 1 _ (stP d.stores p (gainV d.pits l l.length)).length _
      rw [← e2]
      (repeat (refine OwnV.setO ?_ _ _ (by show _ ≠ w.heap.size + 1 + 1; omega))); exact O2.out
end Go.Proofs.Ytcfbihponecblaa
/- FnCaptures: all seeds of a sown position. Conditions: at most sixteen pits, two stores, numbers up to a million. -/
namespace Go.Proofs.Ytcfbihponecblaa
set_option linter.unusedSimpArgs false
set_option linter.unusedVariables false
open Go.RowKit Go.WideShapes Go.ChangeShapes

def RowQ (l : List Int) (n : Nat) (w : World) (e : Ending) (w' : World) : Prop := ∃ v, e = .returned v ∧ w'.ownsRow w.heap.size 2 1 v n (l.map (Value.int .i64)) ∧ Below w.heap.size w w'
set_option maxHeartbeats 1000000 in
theorem copyNumbers_rowC (A : Option Addr) (n c : Nat) (zs : List Int) (w : World) (hs : Sl w w.heap.size 1 A n (zs.map (Value.int .i64))) (hn : n ≤ 100) :
    Calls Try.prog 18 #[.slice A n c] w (RowQ zs n w) := by
  obtain ⟨i0, ti, tz0, tz1, tz2⟩ := info_parts info_int64t
  have HS := Lib.hid hs
  clear hs
  go_enter Try.func18, Try.ntmps18
  go_wp2_with (at_builtin; refine wpList_append_sl _ rfl _ _ 26 rfl w.heap.size 2 i0 _ 1 8 Try.underlying26 ti tz0 tz1 tz2 rfl (by decide) _ 0 [] rfl (World.ownsRow_made _ _ 0 (Nat.le_refl _) (Nat.zero_le _) rfl) w.heap.size A n c (zs.map (Value.int .i64)) rfl (HS.out.below (Below.alloc (Below.refl _ _) (Nat.le_refl _) _)) ?c1 ?c2 ?c3 ?c4 ?_)
  case c1 => intro u hu; rw [List.mem_map] at hu; obtain ⟨b, _, rfl⟩ := hu; rfl
  case c2 => unfold maxLen; omega
  case c3 => omega
  case c4 => simp
  intro v' w3 hown3 hg3 _
  have hbn : Below w.heap.size w w3 := below_app (by (repeat' (first | (with_reducible exact Below.refl _ _) | (with_reducible assumption) | (with_reducible refine Below.alloc ?_ ?_ _) | (with_reducible refine Below.drew ?_) | (with_reducible refine belowDrewN ?_ _) | (with_reducible refine Below.setCell ?_ ?_ _) | (with_reducible refine Below.via (by with_reducible assumption) ?_ ?_) | (with_reducible refine Below.viaD (by with_reducible assumption) ?_ ?_) | (with_reducible exact Below.size (by with_reducible assumption)) | go_size | (with_reducible refine Nat.le_trans ?_ (Below.size (by with_reducible assumption))) | (with_reducible refine Nat.le_trans ?_ (sizeAlloc _ _)) | (with_reducible refine Nat.le_trans ?_ (sizeSet _ _ _)) | (with_reducible refine Nat.le_trans ?_ (sizeDrew _))))) (World.ownsRow_made (e := 2) (size := 1) _ _ 0 (Nat.le_refl _) (Nat.zero_le _) rfl) hg3 (Nat.le_refl _) (by simp)
  have HO3 := Lib.hid hown3
  clear hown3 hg3
  go_wp2_with fail
  go_ret
  exact ⟨v', rfl, HO3.out, hbn⟩
theorem one_cellsC (l : List Int) : ∀ u ∈ l.map (Value.int .i64), u.oneCell' = true := by
  intro u hu
  rw [List.mem_map] at hu
  obtain ⟨b, _, rfl⟩ := hu
  rfl
theorem psum_small {L : List Int} (h : ∀ z ∈ L, 0 ≤ z ∧ z ≤ 1000000) : ∀ k, k ≤ L.length → 0 ≤ psum L k ∧ psum L k ≤ 1000000 * (k : Int) := by
  intro k
  induction k with
  | zero => intro _; simp [psum]
  | succ k ih =>
    intro hk
    have h1 := ih (by omega)
    have h2 := h _ (getD_mem 0 (show k < L.length by omega))
    rw [psum]
    omega
set_option maxRecDepth 20000 in
set_option maxHeartbeats 4000000 in
theorem SownSeeds_any (A1 A2 : Option Addr) (n1 c1 n2 c2 : Nat) (d : SownD) (s : Int) (w : World) (s1 : Sl w w.heap.size 1 A1 n1 (d.pits.map (Value.int .i64))) (s2 : Sl w w.heap.size 1 A2 n2 (d.stores.map (Value.int .i64))) (hn1 : n1 ≤ 16) (hn2 : n2 ≤ 2) (hb : ∀ z ∈ d.pits ++ d.stores, 0 ≤ z ∧ z ≤ 1000000) (hq : psum (d.pits ++ d.stores) (n1 + n2) = s) :
    Calls Try.prog 9 #[.agg #[.slice A1 n1 c1, .slice A2 n2 c2, .int .i64 d.last, .int .i64 d.laps]] w fun e w' => e = .returned (.int .i64 s) ∧ Below w.heap.size w w' := by
  obtain ⟨i0, ti, tz0, tz1, tz2⟩ := info_parts info_int64t
  have HI := Lib.hid (And.intro ti (And.intro tz0 (And.intro tz1 tz2)))
  have X0 := Lib.hid (Blk.new w 28 #[.slice A1 n1 c1, .slice A2 n2 c2, .int .i64 d.last, .int .i64 d.laps])
  have N0 : Hid (Below w.heap.size w (w.alloc (.cells #[.slice A1 n1 c1, .slice A2 n2 c2, .int .i64 d.last, .int .i64 d.laps] 28))) := Below.alloc (Below.refl _ _) (Nat.le_refl _) _
  have H1 := Lib.hid (s1.later N0.out)
  have H2 := Lib.hid (s2.later N0.out)
  have hl1 : d.pits.length = n1 := s1.ints
  have hl2 : d.stores.length = n2 := s2.ints
  have HB := Lib.hid hb
  have HQ := Lib.hid hq
  have HN : (d.pits ++ d.stores).length = n1 + n2 := by rw [List.length_append, hl1, hl2]
  clear s1 s2 hb hq ti tz0 tz1 tz2
  go_enter Try.func9, Try.ntmps9
  go_upto_region 2 with fail
  obtain ⟨w1, hw1⟩ : ∃ X_, X_ = w.alloc (.cells #[.slice A1 n1 c1, .slice A2 n2 c2, .int .i64 d.last, .int .i64 d.laps] 28) := ⟨_, rfl⟩
  rw [← hw1]
  rw [← hw1] at X0 N0 H1 H2
  have hz1 : w1.heap.size = w.heap.size + 1 := by rw [hw1]; simp
  clear hw1
  obtain ⟨⟨x0, x1, x2, x3⟩, _, hxl⟩ := blk4 X0.out
  have HST : Hid (w1.drew.cell? ⟨w.heap.size, 0, none⟩ = some (.slice A1 n1 c1) ∧ w1.drew.cell? ⟨w.heap.size, 1, none⟩ = some (.slice A2 n2 c2)) := ⟨x0, x1⟩
  clear x0 x1 x2 x3 X0
  have H1d : Hid (Sl w1.drew w1.drew.heap.size 1 A1 n1 (d.pits.map (Value.int .i64))) := H1.out.drew
  go_wp2_with fail
  refine wp_region_held_drew (S := (fun W => W.cell? ⟨w.heap.size, 0, none⟩ = some (.slice A1 n1 c1) ∧ W.cell? ⟨w.heap.size, 1, none⟩ = some (.slice A2 n2 c2))) (by kernel_rfl) ?_ (fun hHeld => ?_)
  focus ((try dsimp only); (first | (with_reducible exact hk3.out) | (with_reducible exact hk2.out) | (with_reducible exact HST.out)))
  refine H_take (i := 0) (v := ?_) rfl (by kernel_rfl) (by kernel_rfl) (by kernel_rfl) (fun _ _ _ h => h) (by rfl) ?_ (by assumption) ?_
  rotate_left
  focus (intro w hSw; obtain ⟨c0, c1_⟩ := hSw; go_simp; first | done | with_reducible rfl | (trace_state; fail))
  try simp only [Act.put, List.setIfInBounds_toArray, List.set_cons_zero, List.set_cons_succ]
  refine H_take (i := 1) (v := ?_) rfl (by kernel_rfl) (by kernel_rfl) (by kernel_rfl) (fun _ _ _ h => h) (by rfl) ?_ (by assumption) ?_
  rotate_left
  focus (intro w hSw; obtain ⟨c0, c1_⟩ := hSw; go_simp; first | done | with_reducible rfl | (trace_state; fail))
  try simp only [Act.put, List.setIfInBounds_toArray, List.set_cons_zero, List.set_cons_succ]
  refine H_take (i := 3) (v := ?_) rfl (by kernel_rfl) (by kernel_rfl) (by kernel_rfl) (fun _ _ _ h => h) (by rfl) ?_ (by assumption) ?_
  rotate_left
  focus (intro w hSw; obtain ⟨c0, c1_⟩ := hSw; go_simp; first | done | with_reducible rfl | (trace_state; fail))
  try simp only [Act.put, List.setIfInBounds_toArray, List.set_cons_zero, List.set_cons_succ]
  refine H_take (i := 4) (v := ?_) rfl (by kernel_rfl) (by kernel_rfl) (by kernel_rfl) (fun _ _ _ h => h) (by rfl) ?_ (by assumption) ?_
  rotate_left
  focus (intro w hSw; obtain ⟨c0, c1_⟩ := hSw; go_simp; first | done | with_reducible rfl | (trace_state; fail))
  try simp only [Act.put, List.setIfInBounds_toArray, List.set_cons_zero, List.set_cons_succ]
  refine H_take (i := 7) (v := ?_) rfl (by kernel_rfl) (by kernel_rfl) (by kernel_rfl) (fun _ _ _ h => h) (by rfl) ?_ (by assumption) ?_
  rotate_left
  focus (intro w hSw; obtain ⟨c0, c1_⟩ := hSw; go_simp; first | done | with_reducible rfl | (trace_state; fail))
  try simp only [Act.put, List.setIfInBounds_toArray, List.set_cons_zero, List.set_cons_succ]
  refine H_call (i := 2) rfl (by kernel_rfl) (fun K hK => ?_)
  go_simp
  (go_at_call 18; (with_reducible refine Calls.mono (copyNumbers_rowC A1 n1 c1 d.pits _ H1d.out (by omega)) ?_); rintro e w2 ⟨v2, rfl, hown2, hb2⟩; have HO2 := Lib.hid hown2; have HB2 : Hid (Below w1.heap.size w1 w2) := Below.undrew hb2; have hz2 := HB2.out.size; have hk2 : Hid (w2.cell? ⟨w.heap.size, 0, none⟩ = some (.slice A1 n1 c1) ∧ w2.cell? ⟨w.heap.size, 1, none⟩ = some (.slice A2 n2 c2)) := ⟨(HB2.out.cell (p := ⟨w.heap.size, 0, none⟩) hxl).trans HST.out.1, (HB2.out.cell (p := ⟨w.heap.size, 1, none⟩) hxl).trans HST.out.2⟩; have H22 := Lib.hid (H2.out.later HB2.out); clear hown2 hb2)
  refine hK.out _ _ ?_ (fun hHeld => ?_)
  focus ((try dsimp only); (first | (with_reducible exact hk3.out) | (with_reducible exact hk2.out) | (with_reducible exact HST.out)))
  clear hK K
  try simp only [Act.put, List.setIfInBounds_toArray, List.set_cons_zero, List.set_cons_succ]
  refine H_call (i := 5) rfl (by kernel_rfl) (fun K hK => ?_)
  (refine step_append_sl _ rfl _ _ 26 rfl w1.heap.size 2 i0 _ 1 8 Try.underlying26 HI.out.1 HI.out.2.1 HI.out.2.2.1 HI.out.2.2.2 rfl (by decide) v2 n1 (d.pits.map (Value.int .i64)) rfl HO2.out w2.heap.size A2 n2 c2 (d.stores.map (Value.int .i64)) rfl H22.out (one_cellsC _) (by unfold maxLen; omega) (by omega) hz2 ?_; intro v3 w3 hown3 hg3 _; have HO3 := Lib.hid hown3; have HB3 : Hid (Below w1.heap.size w1 w3) := below_app HB2.out HO2.out hg3 (Nat.le_refl _) hz2; have hk3 : Hid (w3.cell? ⟨w.heap.size, 0, none⟩ = some (.slice A1 n1 c1) ∧ w3.cell? ⟨w.heap.size, 1, none⟩ = some (.slice A2 n2 c2)) := ⟨(HB3.out.cell (p := ⟨w.heap.size, 0, none⟩) hxl).trans HST.out.1, (HB3.out.cell (p := ⟨w.heap.size, 1, none⟩) hxl).trans HST.out.2⟩; have hown3' := hown3; obtain ⟨A3, g3, cap3, rfl, hg3', hnc3, hcm3, O3⟩ := own_of_row hown3'; have HS3 := Lib.hid O3.sl; clear hown3 hown3' hg3 O3)
  refine hK.out _ _ ?_ (fun hHeld => ?_)
  focus ((try dsimp only); (first | (with_reducible exact hk3.out) | (with_reducible exact hk2.out) | (with_reducible exact HST.out)))
  clear hK K
  try simp only [Act.put, List.setIfInBounds_toArray, List.set_cons_zero, List.set_cons_succ]
  refine H_take (i := 6) (v := ?_) rfl (by kernel_rfl) (by kernel_rfl) (by kernel_rfl) (fun _ _ _ h => h) (by rfl) ?_ (by assumption) ?_
  rotate_left
  focus (intro w hSw; obtain ⟨c0, c1_⟩ := hSw; go_simp; first | done | with_reducible rfl | (trace_state; fail))
  try simp only [Act.put, List.setIfInBounds_toArray, List.set_cons_zero, List.set_cons_succ]
  refine wpAnyH_done (by kernel_rfl) ?_ _
  have HB3' := Lib.hid (Below.via HB3.out N0.out (by omega))
  have hz3 := HB3.out.size
  clear hHeld HST HO2 HO3 HB2 HB3 hk2 hk3 H22 H1 H2 N0
  rw [← List.map_append] at HS3
  obtain ⟨L, hL⟩ : ∃ L, d.pits ++ d.stores = L := ⟨_, rfl⟩
  rw [hL] at HS3 HB HQ HN
  clear hL
  obtain ⟨N, hN⟩ : ∃ N, n1 + n2 = N := ⟨_, rfl⟩
  rw [hN] at HS3 HQ HN hnc3
  rw [hN]
  go_wp2_with fail
  go_loopw [3, 13] (fun v3 v13 wr => ∃ k : Nat, v3 = .int .i64 (psum L k) ∧ v13 = .int .i64 k ∧ k ≤ N ∧ Below w3.heap.size w3 wr) (fun _ v13 _ => N - (intOf v13).toNat)
  case atStart => exact ⟨0, rfl, rfl, by omega, Below.refl _ _⟩
  case round =>
    obtain ⟨k, rfl, rfl, hk, hbl⟩ := hrel
    rename World => wo
    have hzo := hbl.size
    have hps := psum_small HB.out k (by omega)
    by_cases hlt : k < N
    case pos =>
      have hlt' : (k : Int) < (N : Int) := by omega
      obtain ⟨b, off, z, rfl, hbb, HZ, hc⟩ := (HS3.out.later hbl).int hlt
      have hzb := HB.out _ (getD_mem 0 (show k < L.length by omega))
      rw [HZ.out] at hzb
      have HP : Hid (psum L (k + 1) = psum L k + z) := by unfold Hid; rw [psum, HZ.out]
      have HBL := Lib.hid hbl
      clear hbl
      revert hps HP
      generalize hu : psum L k = u
      intro hps HP
      clear hu
      go_wp2_with fail
      go_roundw
      case rel => exact ⟨k + 1, by rw [HP.out], by first | rfl | go_num, by omega, by have := HBL.out; (repeat' (first | (with_reducible exact Below.refl _ _) | (with_reducible assumption) | (with_reducible refine Below.alloc ?_ ?_ _) | (with_reducible refine Below.drew ?_) | (with_reducible refine belowDrewN ?_ _) | (with_reducible refine Below.setCell ?_ ?_ _) | (with_reducible refine Below.via (by with_reducible assumption) ?_ ?_) | (with_reducible refine Below.viaD (by with_reducible assumption) ?_ ?_) | (with_reducible exact Below.size (by with_reducible assumption)) | go_size | (with_reducible refine Nat.le_trans ?_ (Below.size (by with_reducible assumption))) | (with_reducible refine Nat.le_trans ?_ (sizeAlloc _ _)) | (with_reducible refine Nat.le_trans ?_ (sizeSet _ _ _)) | (with_reducible refine Nat.le_trans ?_ (sizeDrew _))))⟩
      case measure => first | (simp [intOf]; done) | (simp [intOf]; omega)
    case neg =>
      obtain rfl : k = N := by omega
      have HBL := Lib.hid hbl
      have hlt' : ¬ (k : Int) < (k : Int) := by omega
      rw [HQ.out]
      clear hbl
      go_wp2_with fail
      go_ret
      exact ⟨rfl, Below.via HBL.out HB3'.out HB3'.out.size⟩
end Go.Proofs.Ytcfbihponecblaa
/- FnCaptures: what is captured goes from the pits that are told into the store: the plain law. Conditions: valid sown seeds. -/
namespace Go.Proofs.Ytcfbihponecblaa
set_option linter.unusedSimpArgs false
set_option linter.unusedVariables false
open Go.RowKit

theorem psum_congr {a b : List Int} : ∀ n, (∀ j, j < n → a.getD j 0 = b.getD j 0) → psum a n = psum b n := by
  intro n
  induction n with
  | zero => intro _; rfl
  | succ n ih => intro h; rw [psum, psum, ih (fun j hj => h j (by omega)), h n (by omega)]
theorem psum_app {a b : List Int} (n : Nat) : psum (a ++ b) (a.length + n) = psum a a.length + psum b n := by
  induction n with
  | zero =>
    rw [psum, Int.add_zero, Nat.add_zero]
    exact psum_congr _ (fun j hj => by rw [List.getD_eq_getElem?_getD, List.getElem?_append_left hj, ← List.getD_eq_getElem?_getD])
  | succ n ih =>
    rw [← Nat.add_assoc, psum, ih, psum, List.getD_eq_getElem?_getD, List.getElem?_append_right (by omega), Nat.add_sub_cancel_left, ← List.getD_eq_getElem?_getD]
    omega
theorem getD_setI {zs : List Int} {k j : Nat} {x : Int} (hk : k < zs.length) : (zs.set k x).getD j 0 = if j = k then x else zs.getD j 0 := by
  by_cases h : j = k
  · subst h
    rw [if_pos rfl, List.getD_eq_getElem?_getD, List.getElem?_set_self hk]; rfl
  · rw [if_neg h, List.getD_eq_getElem?_getD, List.getElem?_set_ne (Ne.symm h), ← List.getD_eq_getElem?_getD]
theorem psum_set {zs : List Int} {k : Nat} {x : Int} (hk : k < zs.length) : ∀ n, psum (zs.set k x) n = psum zs n + (if k < n then x - zs.getD k 0 else 0) := by
  intro n
  induction n with
  | zero => simp [psum]
  | succ n ih =>
    rw [psum, psum, ih, getD_setI hk]
    by_cases h1 : n = k
    · subst h1
      rw [if_pos rfl, if_neg (by omega), if_pos (by omega)]
      omega
    · rw [if_neg h1]
      by_cases h2 : k < n
      · rw [if_pos h2, if_pos (by omega)]; omega
      · rw [if_neg h2, if_neg (by omega)]; omega
theorem psum_setZ {P : Nat} {zs l : List Int} (hz : zs.length = 2 * P) (hi : inPits P l) (hn : ndL l) : ∀ j, j ≤ l.length → psum (setZ zs l j) (2 * P) = psum zs (2 * P) - gainV zs l j := by
  intro j
  induction j with
  | zero => intro _; rw [setZ, gainV]; omega
  | succ j ih =>
    intro hj
    obtain ⟨m, e, hm⟩ := hi.2 j (by omega)
    have h1 := setZ_at (zs := zs) hn hi (show j < l.length by omega) j (Nat.le_refl _)
    rw [e, Int.toNat_natCast] at h1
    rw [setZ, gainV, e, Int.toNat_natCast, psum_set (by rw [setZ_len]; omega), if_pos hm, ih (by omega), h1]
    omega
theorem psum_stP {st : List Int} {p : Nat} {v : Int} (hl : st.length = 2) (hp : p < 2) : psum (stP st p v) 2 = psum st 2 + v := by
  rw [stP, psum_set (by omega), if_pos hp]
  omega
/-- Which pits are marked behind the first ones of a list. -/
def tkL (n : Nat) (l : List Int) : Nat → List Bool
  | 0 => List.replicate n false
  | i + 1 => (tkL n l i).set (l.getD i 0).toNat true
theorem tkL_len (n : Nat) (l : List Int) (i : Nat) : (tkL n l i).length = n := by
  induction i with
  | zero => simp [tkL]
  | succ i ih => rw [tkL, List.length_set, ih]
theorem getD_setB {zs : List Bool} {k j : Nat} {x : Bool} (hk : k < zs.length) : (zs.set k x).getD j false = if j = k then x else zs.getD j false := by
  by_cases h : j = k
  · subst h
    rw [if_pos rfl, List.getD_eq_getElem?_getD, List.getElem?_set_self hk]; rfl
  · rw [if_neg h, List.getD_eq_getElem?_getD, List.getElem?_set_ne (Ne.symm h), ← List.getD_eq_getElem?_getD]
theorem rep_false (n j : Nat) : (List.replicate n false).getD j false = false := by
  rw [List.getD_eq_getElem?_getD, List.getElem?_replicate]
  split <;> rfl
theorem tkL_new {P : Nat} {l : List Int} (hi : inPits P l) (hn : ndL l) {k : Nat} (hk : k < l.length) : ∀ i, i ≤ k → (tkL (2 * P) l i).getD (l.getD k 0).toNat false = false := by
  intro i
  induction i with
  | zero => intro _; exact rep_false _ _
  | succ i ih =>
    intro hik
    obtain ⟨a, ea, _⟩ := hi.2 k hk
    obtain ⟨b, eb, hb⟩ := hi.2 i (by omega)
    have hne := hn i k (by omega) hk
    rw [tkL, getD_setB (by rw [tkL_len]; omega), if_neg (by omega)]
    exact ih (by omega)
theorem tkL_pits {P : Nat} {zs l : List Int} (hz : zs.length = 2 * P) (hi : inPits P l) : ∀ i, i ≤ l.length → ∀ k, ((tkL (2 * P) l i).getD k false = true → (setZ zs l i).getD k 0 = 0) ∧ ((tkL (2 * P) l i).getD k false = false → (setZ zs l i).getD k 0 = zs.getD k 0) := by
  intro i
  induction i with
  | zero => intro _ k; exact ⟨fun h => by rw [tkL, rep_false] at h; exact absurd h (by decide), fun _ => rfl⟩
  | succ i ih =>
    intro hik k
    obtain ⟨b, eb, hb⟩ := hi.2 i (by omega)
    have h1 := ih (by omega) k
    rw [tkL, setZ, getD_setB (by rw [tkL_len]; omega), getD_setI (by rw [setZ_len]; omega)]
    by_cases h : k = (l.getD i 0).toNat
    · rw [if_pos h, if_pos h]
      exact ⟨fun _ => rfl, fun h2 => absurd h2 (by decide)⟩
    · rw [if_neg h, if_neg h]
      exact h1
/-- All that the law asks of a capture. -/
structure CapF (P p : Nat) (r : Ru) (d : SownD) (l : List Int) (v : Int) (d' : SownD) : Prop where
  hP : r.p = (P : Int)
  h2 : 2 ≤ P
  h8 : P ≤ 8
  hp : p < 2
  np : d.pits.length = 2 * P
  ns : d.stores.length = 2
  op : okL d.pits = true
  os : okL d.stores = true
  hi : inPits P l
  nd : ndL l
  hv : gainV d.pits l l.length = v
  v0 : 0 ≤ v
  v1 : v ≤ 1536
  tp : d'.pits = setZ d.pits l l.length
  ts : d'.stores = stP d.stores p v
  slam : ∀ q, slamR r d p = q → q = true → r.sl = 2 → v = 0
  none : r.ca = 0 → v = 0
theorem slamL_nil {P p : Nat} {ca sl last : Int} {zs : List Int} (h : slamB P p zs (takenL P p ca last zs) = true) (hs : sl = 2) : capL P p ca sl last zs = [] := by
  rw [capL, if_pos ⟨hs, h⟩]
theorem capL_none {P p : Nat} {sl last : Int} {zs : List Int} : capL P p 0 sl last zs = [] := by
  have h : takenL P p 0 last zs = [] := by
    unfold takenL
    split
    · rfl
    · rw [takenK, if_neg (by decide), if_neg (by decide), if_neg (by decide)]
  unfold capL
  split
  · rfl
  · exact h
theorem capF_of {r : Ru} {d : SownD} {pl : Int} (h : okSown r d pl = true) : ∃ (P p : Nat) (l : List Int) (v : Int) (d' : SownD), pl = (p : Int) ∧ pitsR r d p = (l, 0) ∧ gainR r d p = (v, 0) ∧ takeR r d p = (d', 0) ∧ CapF P p r d l v d' := by
  obtain ⟨P, p, hP, h2, h8, hn, hn', hpl, hp, ho, ho', hk⟩ := okSown_of h
  subst hpl
  have hPn : r.p.toNat = P := by rw [hP]; rfl
  refine ⟨P, p, capR r d p, gainV d.pits (capR r d p) (capR r d p).length, ⟨setZ d.pits (capR r d p) (capR r d p).length, stP d.stores p (gainV d.pits (capR r d p) (capR r d p).length), d.last, d.laps⟩, rfl, by rw [pitsR, if_pos h], by rw [gainR, if_pos h], by rw [takeR, if_pos h, Int.toNat_natCast], ?_⟩
  have hi : inPits P (capR r d p) := by rw [capR, hPn]; exact capL_in h2 hk
  have nd : ndL (capR r d p) := by rw [capR, hPn]; exact capL_nd h2 hk
  have hb := gainV_bd ho hn hi _ (Nat.le_refl _)
  have hl := hi.1
  refine ⟨hP, h2, h8, hp, hn, hn', ho, ho', hi, nd, rfl, hb.1, by omega, rfl, rfl, ?_, ?_⟩
  · intro q hq hqt hs
    subst hqt
    rw [slamR, h, Bool.true_and, hPn, Int.toNat_natCast] at hq
    have h0 : capR r d p = [] := by rw [capR, hPn, Int.toNat_natCast]; exact slamL_nil hq hs
    rw [h0]; rfl
  · intro hc
    have h0 : capR r d p = [] := by rw [capR, hc]; exact capL_none
    rw [h0]; rfl
section
variable {P p : Nat} {r : Ru} {d d' : SownD} {l : List Int} {v : Int}
theorem CapF.lp (h : CapF P p r d l v d') : d'.pits.length = 2 * P := by rw [h.tp, setZ_len]; exact h.np
theorem CapF.ls (h : CapF P p r d l v d') : d'.stores.length = 2 := by rw [h.ts, stP_len]; exact h.ns
theorem CapF.sum (h : CapF P p r d l v d') : psum (d'.pits ++ d'.stores) (2 * P + 2) = psum (d.pits ++ d.stores) (2 * P + 2) := by
  have e1 := psum_app (a := d'.pits) (b := d'.stores) 2
  have e2 := psum_app (a := d.pits) (b := d.stores) 2
  rw [h.lp] at e1
  rw [h.np] at e2
  have e3 := psum_setZ h.np h.hi h.nd _ (Nat.le_refl _)
  rw [e1, e2, h.tp, h.ts, e3, psum_stP h.ns h.hp, h.hv]
  omega
theorem CapF.got (h : CapF P p r d l v d') : d'.stores.getD p 0 = d.stores.getD p 0 + v := by
  rw [h.ts]; exact stP_at v (by have := h.ns; have := h.hp; omega)
theorem CapF.left (h : CapF P p r d l v d') {q : Nat} (hq : q ≠ p) : d'.stores.getD q 0 = d.stores.getD q 0 := by
  rw [h.ts, stP, getD_setI (by have := h.ns; have := h.hp; omega), if_neg hq]
theorem CapF.bd (h : CapF P p r d l v d') : ∀ z ∈ d.pits ++ d.stores, 0 ≤ z ∧ z ≤ 1000000 := by
  intro z hz
  rcases List.mem_append.1 hz with hz | hz
  · have := inB_of (List.all_eq_true.1 h.op z hz); omega
  · have := inB_of (List.all_eq_true.1 h.os z hz); omega
theorem CapF.bd' (h : CapF P p r d l v d') : ∀ z ∈ d'.pits ++ d'.stores, 0 ≤ z ∧ z ≤ 1000000 := by
  intro z hz
  have h0 := h.v0
  have h1 := h.v1
  rcases List.mem_append.1 hz with hz | hz
  · obtain ⟨k, hk, rfl⟩ := List.getElem_of_mem hz
    have e := tkL_pits h.np h.hi _ (Nat.le_refl _) k
    rw [h.tp] at hk
    rw [setZ_len] at hk
    have hz := inB_of (List.all_eq_true.1 h.op _ (getD_mem 0 hk))
    have e0 : d'.pits[k] = (setZ d.pits l l.length).getD k 0 := by
      rw [← h.tp, List.getD_eq_getElem?_getD, List.getElem?_eq_getElem]; rfl
    rw [e0]
    cases hq : (tkL (2 * P) l l.length).getD k false
    · rw [e.2 hq]; omega
    · rw [e.1 hq]; omega
  · obtain ⟨k, hk, rfl⟩ := List.getElem_of_mem hz
    have hs := h.ls
    have e0 : d'.stores[k] = d'.stores.getD k 0 := by
      rw [List.getD_eq_getElem?_getD, List.getElem?_eq_getElem hk]; rfl
    have hz := inB_of (List.all_eq_true.1 h.os _ (getD_mem 0 (show k < d.stores.length by rw [h.ns]; omega)))
    rw [e0]
    by_cases hkp : k = p
    · subst hkp; rw [h.got]; omega
    · rw [h.left hkp]; omega
end
end Go.Proofs.Ytcfbihponecblaa
