/- Captures: the captured pits by both, own copies and marks of seeds. Conditions: lengths below 2^20. -/
import Derived.Test.YtdkljnlkfkjdpaaCap12
import Derived.Test.YtdkljnlkfkjdpaaInt64S
namespace Go.Proofs.Ytdkljnlkfkjdpaa
set_option linter.unusedSimpArgs false
set_option linter.unusedVariables false
open Go.RowKit

def pitsR (r : Ru) (d : SownD) (pl : Int) : List Int × Int := if okSown r d pl then (capR r d pl, 0) else ([], 1)
theorem pairLI {x x' : List Int} {z z' : Int} (h : (x', z') = (x, z)) : x' = x ∧ z' = z := by
  injection h with h1 h2
  exact ⟨h1, h2⟩
def CpPost (l : List Int) (code : Int) (w : World) (e : Ending) (w' : World) : Prop :=
  ∃ (A : Option Addr) (g cap : Nat), e = .returned (.tuple #[.slice A l.length cap, .int .i64 code]) ∧ w.heap.size ≤ g ∧ OwnV w' g 2 1 A l.length (l.map (Value.int .i64)) ∧ Below w.heap.size w w'
theorem pitsR_len {r : Ru} {d : SownD} {pl : Int} {l : List Int} {code : Int} (h : pitsR r d pl = (l, code)) : l.length ≤ 16 := by
  unfold pitsR at h
  cases g : okSown r d pl
  · rw [g, if_neg (by simp)] at h
    obtain ⟨rfl, _⟩ := pairLI h
    simp
  · rw [g, if_pos rfl] at h
    obtain ⟨rfl, _⟩ := pairLI h
    obtain ⟨P, p, hP, h2, h8, hn, hn', hd, hp, ho, ho', hk⟩ := okSown_of g
    have : capR r d pl = capL P p r.ca r.sl d.last d.pits := by rw [capR, hP, hd, Int.toNat_natCast, Int.toNat_natCast]
    rw [this]
    have := (capL_in (P := P) (p := p) (ca := r.ca) (sl := r.sl) (zs := d.pits) h2 hk).1
    omega
set_option maxRecDepth 100000 in
set_option maxHeartbeats 2000000 in
theorem CapturePits_any (r : Ru) (A1 A2 : Option Addr) (n1 c1 n2 c2 : Nat) (d : SownD) (pl : Int) (l : List Int) (code : Int) (w : World) (s1 : Sl w w.heap.size 1 A1 n1 (d.pits.map (Value.int .i64))) (s2 : Sl w w.heap.size 1 A2 n2 (d.stores.map (Value.int .i64))) (hc : n1 ≤ c1) (hcm : c1 ≤ 9223372036854775807) (hsz : szSown d ≤ 1048576) (hq : pitsR r d pl = (l, code)) :
    Calls Try.prog 17 #[.agg #[.int .i64 r.p, .int .i64 r.s, .bool r.st, .bool r.sk, .bool r.re, .bool r.fe, .bool r.ag, .int .i64 r.ca, .int .i64 r.sl], .agg #[.slice A1 n1 c1, .slice A2 n2 c2, .int .i64 d.last, .int .i64 d.laps], .int .i64 pl] w (CpPost l code w) := by
  have HV : Hid (∀ w' q, Below w.heap.size w w' → okSown r d pl = q → Calls Try.prog 32 #[.agg #[.int .i64 r.p, .int .i64 r.s, .bool r.st, .bool r.sk, .bool r.re, .bool r.fe, .bool r.ag, .int .i64 r.ca, .int .i64 r.sl], .agg #[.slice A1 n1 c1, .slice A2 n2 c2, .int .i64 d.last, .int .i64 d.laps], .int .i64 pl] w' fun e w'' => e = .returned (.bool q) ∧ Below w'.heap.size w' w'') := fun w' q hb h => ValidSown_any r A1 A2 n1 c1 n2 c2 d pl q w' (s1.later hb) (s2.later hb) hsz h
  unfold pitsR at hq
  cases g1 : okSown r d pl
  case false =>
    rw [g1, if_neg (by simp)] at hq
    obtain ⟨rfl, rfl⟩ := pairLI hq
    have G1 := Lib.hid g1
    clear g1 hq s1 s2
    go_enter Try.func17, Try.ntmps17
    go_wp2_with fail
    with_reducible refine Calls.mono (HV.out _ false ?_ G1.out) ?_
    · (repeat' (first | (with_reducible exact Below.refl _ _) | (with_reducible assumption) | (with_reducible refine Below.alloc ?_ ?_ _) | (with_reducible refine Below.drew ?_) | (with_reducible refine belowDrewN ?_ _) | (with_reducible refine Below.setCell ?_ ?_ _) | (with_reducible refine Below.via (by with_reducible assumption) ?_ ?_) | (with_reducible refine Below.viaD (by with_reducible assumption) ?_ ?_) | (with_reducible exact Below.size (by with_reducible assumption)) | go_size | (with_reducible refine Nat.le_trans ?_ (Below.size (by with_reducible assumption))) | (with_reducible refine Nat.le_trans ?_ (sizeAlloc _ _)) | (with_reducible refine Nat.le_trans ?_ (sizeSet _ _ _)) | (with_reducible refine Nat.le_trans ?_ (sizeDrew _))))
    rintro e w1 ⟨rfl, hb1⟩
    go_wp2_with fail
    go_ret2
    exact ⟨none, w.heap.size, 0, rfl, Nat.le_refl _, OwnV.none _ _ _ _ _, by (repeat' (first | (with_reducible exact Below.refl _ _) | (with_reducible assumption) | (with_reducible refine Below.alloc ?_ ?_ _) | (with_reducible refine Below.drew ?_) | (with_reducible refine belowDrewN ?_ _) | (with_reducible refine Below.setCell ?_ ?_ _) | (with_reducible refine Below.via (by with_reducible assumption) ?_ ?_) | (with_reducible refine Below.viaD (by with_reducible assumption) ?_ ?_) | (with_reducible exact Below.size (by with_reducible assumption)) | go_size | (with_reducible refine Nat.le_trans ?_ (Below.size (by with_reducible assumption))) | (with_reducible refine Nat.le_trans ?_ (sizeAlloc _ _)) | (with_reducible refine Nat.le_trans ?_ (sizeSet _ _ _)) | (with_reducible refine Nat.le_trans ?_ (sizeDrew _))))⟩
  case true =>
    rw [g1, if_pos rfl] at hq
    obtain ⟨hl, rfl⟩ := pairLI hq
    obtain ⟨P, p, hP, h2, h8, hn, hn', hd, hp, ho, ho', hk⟩ := okSown_of g1
    have hn1 : n1 = 2 * P := by have := s1.ints; omega
    have hl2 : capL P p r.ca r.sl d.last d.pits = l := by rw [← hl, capR, hP, hd, Int.toNat_natCast, Int.toNat_natCast]
    have HC : Hid (∀ w', Below w.heap.size w w' → Calls Try.prog 36 #[.agg #[.int .i64 r.p, .int .i64 r.s, .bool r.st, .bool r.sk, .bool r.re, .bool r.fe, .bool r.ag, .int .i64 r.ca, .int .i64 r.sl], .agg #[.slice A1 n1 c1, .slice A2 n2 c2, .int .i64 d.last, .int .i64 d.laps], .int .i64 p] w' (TkPost l w')) := fun w' hb => captured_any r P p d.last d.pits A1 A2 n1 c1 n2 c2 d.laps l w' (s1.later hb) hP h2 h8 hn1 hc hcm hp hk ho hl2
    rw [hd] at HV g1
    have G1 := Lib.hid g1
    subst hd
    clear g1 hq hl hl2 s1 s2 hP ho ho' hk hn hn' hc hn1
    go_enter Try.func17, Try.ntmps17
    go_wp2_with fail
    with_reducible refine Calls.mono (HV.out _ true ?_ G1.out) ?_
    · (repeat' (first | (with_reducible exact Below.refl _ _) | (with_reducible assumption) | (with_reducible refine Below.alloc ?_ ?_ _) | (with_reducible refine Below.drew ?_) | (with_reducible refine belowDrewN ?_ _) | (with_reducible refine Below.setCell ?_ ?_ _) | (with_reducible refine Below.via (by with_reducible assumption) ?_ ?_) | (with_reducible refine Below.viaD (by with_reducible assumption) ?_ ?_) | (with_reducible exact Below.size (by with_reducible assumption)) | go_size | (with_reducible refine Nat.le_trans ?_ (Below.size (by with_reducible assumption))) | (with_reducible refine Nat.le_trans ?_ (sizeAlloc _ _)) | (with_reducible refine Nat.le_trans ?_ (sizeSet _ _ _)) | (with_reducible refine Nat.le_trans ?_ (sizeDrew _))))
    rintro e w1 ⟨rfl, hb1⟩
    have HW1 : Hid (Below w.heap.size w w1) := by unfold Hid; (repeat' (first | (with_reducible exact Below.refl _ _) | (with_reducible assumption) | (with_reducible refine Below.alloc ?_ ?_ _) | (with_reducible refine Below.drew ?_) | (with_reducible refine belowDrewN ?_ _) | (with_reducible refine Below.setCell ?_ ?_ _) | (with_reducible refine Below.via (by with_reducible assumption) ?_ ?_) | (with_reducible refine Below.viaD (by with_reducible assumption) ?_ ?_) | (with_reducible exact Below.size (by with_reducible assumption)) | go_size | (with_reducible refine Nat.le_trans ?_ (Below.size (by with_reducible assumption))) | (with_reducible refine Nat.le_trans ?_ (sizeAlloc _ _)) | (with_reducible refine Nat.le_trans ?_ (sizeSet _ _ _)) | (with_reducible refine Nat.le_trans ?_ (sizeDrew _))))
    obtain ⟨hc1, hf1, hl1', hz1⟩ := bfacts hb1
    go_wp2_with fail
    with_reducible refine Calls.mono (HC.out _ ?_) ?_
    · exact HW1.out
    rintro e w2 ⟨A', g, cap, rfl, hg, hnc, hcm', hown, hb2⟩
    go_wp2_with fail
    go_ret2
    exact ⟨A', g, cap, rfl, Nat.le_trans HW1.out.size hg, hown, Below.via hb2 HW1.out HW1.out.size⟩
set_option maxRecDepth 100000 in
set_option maxHeartbeats 2000000 in
theorem sCapturePits_any (r : Ru) (A1 A2 : Option Addr) (n1 c1 n2 c2 : Nat) (d : SownD) (pl : Int) (l : List Int) (code : Int) (w : World) (s1 : Sl w w.heap.size 1 A1 n1 (d.pits.map (Value.int .i64))) (s2 : Sl w w.heap.size 1 A2 n2 (d.stores.map (Value.int .i64))) (hsz : szSown d ≤ 1048576) (hq : pitsR r d pl = (l, code)) :
    Calls Try.prog 16 #[.agg #[.int .i64 r.p, .int .i64 r.s, .bool r.st, .bool r.sk, .bool r.re, .bool r.fe, .bool r.ag, .int .i64 r.ca, .int .i64 r.sl], .agg #[.slice A1 n1 c1, .slice A2 n2 c2, .int .i64 d.last, .int .i64 d.laps], .int .i64 pl] w (CpPost l code w) := by
  obtain ⟨RA, SA⟩ := capsAt w r A1 A2 n1 c1 n2 c2 d 29 31 s1 s2
  have HRA := Lib.hid RA
  have HSA := Lib.hid SA
  have hz1 := s1.ints
  clear RA SA s1 s2
  unfold pitsR at hq
  cases g1 : okSown r d pl
  case false =>
    rw [g1, if_neg (by simp)] at hq
    obtain ⟨rfl, rfl⟩ := pairLI hq
    have G1 := Lib.hid g1
    clear g1 hq
    go_enter Try.func16, Try.ntmps16
    go_wp2_with fail
    with_reducible refine Calls.mono (l06Ok_any r w.heap.size 0 (w.heap.size + 1) 0 A1 A2 n1 c1 n2 c2 d pl false _ HRA.out HSA.out hsz G1.out) ?_
    rintro e w1 ⟨rfl, hb1⟩
    go_wp2_with fail
    go_ret2
    exact ⟨none, w.heap.size, 0, rfl, Nat.le_refl _, OwnV.none _ _ _ _ _, by (repeat' (first | (with_reducible exact Below.refl _ _) | (with_reducible assumption) | (with_reducible refine Below.alloc ?_ ?_ _) | (with_reducible refine Below.drew ?_) | (with_reducible refine belowDrewN ?_ _) | (with_reducible refine Below.setCell ?_ ?_ _) | (with_reducible refine Below.via (by with_reducible assumption) ?_ ?_) | (with_reducible refine Below.viaD (by with_reducible assumption) ?_ ?_) | (with_reducible exact Below.size (by with_reducible assumption)) | go_size | (with_reducible refine Nat.le_trans ?_ (Below.size (by with_reducible assumption))) | (with_reducible refine Nat.le_trans ?_ (sizeAlloc _ _)) | (with_reducible refine Nat.le_trans ?_ (sizeSet _ _ _)) | (with_reducible refine Nat.le_trans ?_ (sizeDrew _))))⟩
  case true =>
    rw [g1, if_pos rfl] at hq
    obtain ⟨hl, rfl⟩ := pairLI hq
    obtain ⟨P, p, hP, h2, h8, hn, hn', hd, hp, ho, ho', hk⟩ := okSown_of g1
    have hn1 : n1 = 2 * P := by omega
    have hl2 : capL P p r.ca r.sl d.last d.pits = l := by rw [← hl, capR, hP, hd, Int.toNat_natCast, Int.toNat_natCast]
    have HF : Hid (∀ w', RuAt w' w.heap.size 0 r → SownAt w' (w.heap.size + 1) 0 A1 n1 c1 A2 n2 c2 d → Calls Try.prog 35 #[.pointer (some ⟨w.heap.size, 0, none⟩), .pointer (some ⟨w.heap.size + 1, 0, none⟩), .int .i64 p] w' (TkPost l w')) := fun w' ha hs => l06Pits_any r P p w.heap.size 0 (w.heap.size + 1) 0 A1 A2 n1 c1 n2 c2 d l w' ha hs hP h2 h8 hn1 hp hk ho hl2
    rw [hd] at g1
    have G1 := Lib.hid g1
    subst hd
    clear g1 hq hl hl2 hP ho ho' hk hn hn' hn1 hz1
    go_enter Try.func16, Try.ntmps16
    go_wp2_with fail
    with_reducible refine Calls.mono (l06Ok_any r w.heap.size 0 (w.heap.size + 1) 0 A1 A2 n1 c1 n2 c2 d p true _ HRA.out HSA.out hsz G1.out) ?_
    rintro e w1 ⟨rfl, hb1⟩
    have HB1 := Lib.hid hb1
    have HW1 : Hid (Below w.heap.size w w1) := by unfold Hid; (repeat' (first | (with_reducible exact Below.refl _ _) | (with_reducible assumption) | (with_reducible refine Below.alloc ?_ ?_ _) | (with_reducible refine Below.drew ?_) | (with_reducible refine belowDrewN ?_ _) | (with_reducible refine Below.setCell ?_ ?_ _) | (with_reducible refine Below.via (by with_reducible assumption) ?_ ?_) | (with_reducible refine Below.viaD (by with_reducible assumption) ?_ ?_) | (with_reducible exact Below.size (by with_reducible assumption)) | go_size | (with_reducible refine Nat.le_trans ?_ (Below.size (by with_reducible assumption))) | (with_reducible refine Nat.le_trans ?_ (sizeAlloc _ _)) | (with_reducible refine Nat.le_trans ?_ (sizeSet _ _ _)) | (with_reducible refine Nat.le_trans ?_ (sizeDrew _))))
    clear hb1
    go_wp2_with fail
    with_reducible refine Calls.mono (HF.out _ ?_ ?_) ?_
    · exact HRA.out.later HB1.out
    · exact HSA.out.later HB1.out
    rintro e w2 ⟨A', g, cap, rfl, hg, hnc, hcm', hown, hb2⟩
    go_wp2_with fail
    go_ret2
    exact ⟨A', g, cap, rfl, Nat.le_trans HW1.out.size hg, hown, Below.via hb2 HW1.out HW1.out.size⟩
set_option maxRecDepth 100000 in
theorem toSown_blk (A1 A2 : Option Addr) (n1 c1 n2 c2 : Nat) (d : SownD) (w : World) (s1 : Sl w w.heap.size 1 A1 n1 (d.pits.map (Value.int .i64))) (s2 : Sl w w.heap.size 1 A2 n2 (d.stores.map (Value.int .i64))) (h1 : n1 ≤ 1048576) (h2 : n2 ≤ 1048576) :
    Calls Try.prog 11 #[.agg #[.slice A1 n1 c1, .slice A2 n2 c2, .int .i64 d.last, .int .i64 d.laps]] w fun e w' => ∃ g1 g2, e = .returned (.agg #[.slice (some ⟨g1, 0, none⟩) n1 n1, .slice (some ⟨g2, 0, none⟩) n2 n2, .int .i64 d.last, .int .i64 d.laps]) ∧ OwnV w' g1 2 1 (some ⟨g1, 0, none⟩) n1 (d.pits.map (Value.int .i64)) ∧ OwnV w' g2 2 1 (some ⟨g2, 0, none⟩) n2 (d.stores.map (Value.int .i64)) ∧ (w.heap.size ≤ g1 ∧ w.heap.size ≤ g2 ∧ g1 ≠ g2 ∧ g1 < w'.heap.size ∧ g2 < w'.heap.size) ∧ Below w.heap.size w w' :=
  (toSown_lit A1 A2 n1 c1 n2 c2 d.last d.laps d.pits d.stores w s1 s2 h1 h2).mono fun e w' ⟨he, hw⟩ => by
    have e1 := s1.ints
    have e2 := s2.ints
    refine ⟨_, _, he, ?_, ?_, ?_, ?_⟩
    · subst hw
      refine OwnV.of_blk ?_ (by simpa using e1)
      refine Blk.later ?_ (boxed_ _ _)
      have K := Blk.new ((((w.alloc (.cells #[.slice A1 n1 c1, .slice A2 n2 c2, .int .i64 d.last, .int .i64 d.laps] 26)).alloc (.cells #[.slice (some ⟨w.heap.size + 1 + 1 + 1, 0, none⟩) n1 n1, .slice (some ⟨w.heap.size + 1 + 1 + 1 + 1, 0, none⟩) n2 n2, .int .i64 d.last, .int .i64 d.laps] 31)).alloc (.cells #[.slice (some ⟨w.heap.size + 1 + 1 + 1, 0, none⟩) n1 n1, .slice (some ⟨w.heap.size + 1 + 1 + 1 + 1, 0, none⟩) n2 n2, .int .i64 d.last, .int .i64 d.laps] 31))) 2 (d.pits.map (Value.int .i64)).toArray
      simp only [World.size_alloc] at K
      exact K
    · subst hw
      refine OwnV.of_blk ?_ (by simpa using e2)
      have K := Blk.new (((((w.alloc (.cells #[.slice A1 n1 c1, .slice A2 n2 c2, .int .i64 d.last, .int .i64 d.laps] 26)).alloc (.cells #[.slice (some ⟨w.heap.size + 1 + 1 + 1, 0, none⟩) n1 n1, .slice (some ⟨w.heap.size + 1 + 1 + 1 + 1, 0, none⟩) n2 n2, .int .i64 d.last, .int .i64 d.laps] 31)).alloc (.cells #[.slice (some ⟨w.heap.size + 1 + 1 + 1, 0, none⟩) n1 n1, .slice (some ⟨w.heap.size + 1 + 1 + 1 + 1, 0, none⟩) n2 n2, .int .i64 d.last, .int .i64 d.laps] 31))).alloc (.cells (d.pits.map (Value.int .i64)).toArray 2)) 2 (d.stores.map (Value.int .i64)).toArray
      simp only [World.size_alloc] at K
      exact K
    · subst hw
      simp only [World.size_alloc]
      omega
    · subst hw
      (repeat' (first | (with_reducible exact Below.refl _ _) | (with_reducible assumption) | (with_reducible refine Below.alloc ?_ ?_ _) | (with_reducible refine Below.drew ?_) | (with_reducible refine belowDrewN ?_ _) | (with_reducible refine Below.setCell ?_ ?_ _) | (with_reducible refine Below.via (by with_reducible assumption) ?_ ?_) | (with_reducible refine Below.viaD (by with_reducible assumption) ?_ ?_) | (with_reducible exact Below.size (by with_reducible assumption)) | go_size | (with_reducible refine Nat.le_trans ?_ (Below.size (by with_reducible assumption))) | (with_reducible refine Nat.le_trans ?_ (sizeAlloc _ _)) | (with_reducible refine Nat.le_trans ?_ (sizeSet _ _ _)) | (with_reducible refine Nat.le_trans ?_ (sizeDrew _))))
set_option maxRecDepth 100000 in
set_option maxHeartbeats 1000000 in
theorem markSown_any (A1 A2 : Option Addr) (n1 c1 n2 c2 g1 g2 : Nat) (zs1 zs2 : List Int) (la lp k0 : Int) (w : World) (o1 : Own w g1 2 1 A1 n1 zs1) (o2 : Own w g2 2 1 A2 n2 zs2) (hg1 : g1 < w.heap.size) (hg2 : g2 < w.heap.size) (hne : g1 ≠ g2) (h1 : n1 ≤ 1048576) (h2 : n2 ≤ 1048576) (h0 : 0 ≤ k0) (hk : k0 ≤ 1048576) :
    Calls Try.prog 19 #[.agg #[.slice A1 n1 c1, .slice A2 n2 c2, .int .i64 la, .int .i64 lp], .int .i64 k0] w fun e w' => ∃ wm, e = .returned (.int .i64 (k0 + (n1 : Nat) + (n2 : Nat))) ∧ Own w' g1 2 1 A1 n1 (marks k0 n1) ∧ Own w' g2 2 1 A2 n2 (marks (k0 + (n1 : Nat)) n2) ∧ (w.alloc (.cells #[.slice A1 n1 c1, .slice A2 n2 c2, .int .i64 la, .int .i64 lp] 31)).grownBy wm (some g1) ∧ wm.grownBy w' (some g2) := by
  have O1 := Lib.hid o1
  have O2 := Lib.hid o2
  clear o1 o2
  go_enter Try.func19, Try.ntmps19
  go_wp2_with fail
  have oa := (OwnV.later O1.out.ownV (boxed_ _ (.cells #[.slice A1 n1 c1, .slice A2 n2 c2, .int .i64 la, .int .i64 lp] 31))).own
  with_reducible refine Calls.mono (markInt64S_any A1 n1 c1 g1 zs1 k0 _ oa (by omega) h0 (by omega)) ?_
  rintro e wm ⟨rfl, om, hgm⟩
  have K := Blk.new w 31 #[.slice A1 n1 c1, .slice A2 n2 c2, .int .i64 la, .int .i64 lp]
  have K' : Blk wm w.heap.size 31 #[.slice A1 n1 c1, .slice A2 n2 c2, .int .i64 la, .int .i64 lp] := (hgm.block w.heap.size K.lt (by simp; omega)).trans K
  have e1 := K'.cell 1
  have ob := (OwnV.apart (OwnV.later O2.out.ownV (boxed_ _ (.cells #[.slice A1 n1 c1, .slice A2 n2 c2, .int .i64 la, .int .i64 lp] 31))) hgm (fun _ => Ne.symm hne)).own
  have HGM := Lib.hid hgm
  have HOM := Lib.hid om
  have hll := K'.lt
  have e1' : wm.cell? ⟨w.heap.size, 1, none⟩ = some (.slice A2 n2 c2) := e1
  clear oa K K' e1 hgm om
  go_wp2_with fail
  with_reducible refine Calls.mono (markInt64S_any A2 n2 c2 g2 zs2 (k0 + (n1 : Nat)) _ ob (by omega) (by omega) (by omega)) ?_
  rintro e w' ⟨rfl, om2, hgm2⟩
  have o1' := (OwnV.apart HOM.out.ownV hgm2 (fun _ => hne)).own
  go_wp2_with fail
  go_ret
  exact ⟨wm, rfl, o1', om2, HGM.out, hgm2⟩
end Go.Proofs.Ytdkljnlkfkjdpaa
