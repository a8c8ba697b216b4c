/- Captures: what is captured, and slams, by both. Conditions: lengths below 2^20. -/
import Derived.Test.YtcfbihponecblaaG17
namespace Go.Proofs.Ytcfbihponecblaa
set_option linter.unusedSimpArgs false
set_option linter.unusedVariables false
open Go.RowKit

def capL (P p : Nat) (ca sl last : Int) (zs : List Int) : List Int := if sl = 2 ∧ slamB P p zs (takenL P p ca last zs) = true then [] else takenL P p ca last zs
theorem capL_in {P p : Nat} {ca sl last : Int} {zs : List Int} (h2 : 2 ≤ P) (hk : last < 2 * (P : Int)) : inPits P (capL P p ca sl last zs) := by
  unfold capL
  split
  · exact inPits_nil P
  · exact takenL_in h2 hk
theorem okSown_of {r : Ru} {d : SownD} {pl : Int} (h : okSown r d pl = true) : ∃ P p : Nat, r.p = (P : Int) ∧ 2 ≤ P ∧ P ≤ 8 ∧ d.pits.length = 2 * P ∧ d.stores.length = 2 ∧ pl = (p : Int) ∧ p < 2 ∧ okL d.pits = true ∧ okL d.stores = true ∧ d.last < 2 * (P : Int) := by
  simp only [okSown, Bool.and_eq_true] at h
  obtain ⟨⟨⟨h1, h2⟩, h3⟩, h4⟩ := h
  obtain ⟨P, p, hP, g2, g8, hn, hn', hd, hpl, ho, ho', _⟩ := okPos_of h2
  refine ⟨P, p, hP, g2, g8, hn, hn', hd, hpl, ho, ho', ?_⟩
  unfold okLast at h4
  split at h4
  · omega
  · rw [Bool.and_eq_true] at h4
    have := inB_of h4.1
    omega
theorem TkPost.step {l : List Int} {w w1 : World} {e : Ending} {w' : World} (h : @TkPost l w1 e w') (hb : Below w.heap.size w w1) : @TkPost l w e w' := by
  obtain ⟨A, g, cap, he, hg, h1, h2, ho, hb2⟩ := h
  exact ⟨A, g, cap, he, Nat.le_trans hb.size hg, h1, h2, ho, Below.via hb2 hb hb.size⟩
set_option maxRecDepth 100000 in
set_option maxHeartbeats 2000000 in
theorem captured_any (r : Ru) (P p : Nat) (last : Int) (zs : List Int) (A1 A2 : Option Addr) (n1 c1 n2 c2 : Nat) (laps : Int) (l : List Int) (w : World) (s1 : Sl w w.heap.size 1 A1 n1 (zs.map (Value.int .i64))) (hP : r.p = (P : Int)) (h2 : 2 ≤ P) (h8 : P ≤ 8) (hn : n1 = 2 * P) (hc : n1 ≤ c1) (hcm : c1 ≤ 9223372036854775807) (hp : p < 2) (hk : last < 2 * (P : Int)) (ho : okL zs = true) (hl : capL P p r.ca r.sl last zs = l) :
    Calls Try.prog 16 #[.agg #[.int .i64 r.p, .int .i64 r.s, .bool r.st, .bool r.sk, .bool r.re, .bool r.fe, .bool r.ag, .int .i64 r.ca, .int .i64 r.sl], .agg #[.slice A1 n1 c1, .slice A2 n2 c2, .int .i64 last, .int .i64 laps], .int .i64 p] w (TkPost l w) := by
  obtain ⟨q, hq⟩ : ∃ q, slamB P p zs (takenL P p r.ca last zs) = q := ⟨_, rfl⟩
  have HS : Hid (∀ w : World, Sl w w.heap.size 1 A1 n1 (zs.map (Value.int .i64)) → Calls Try.prog 19 #[.agg #[.int .i64 r.p, .int .i64 r.s, .bool r.st, .bool r.sk, .bool r.re, .bool r.fe, .bool r.ag, .int .i64 r.ca, .int .i64 r.sl], .agg #[.slice A1 n1 c1, .slice A2 n2 c2, .int .i64 last, .int .i64 laps], .int .i64 p] w fun e w' => e = .returned (.bool q) ∧ Below w.heap.size w w') := fun w hs => slams_any r P p last zs A1 A2 n1 c1 n2 c2 laps _ q w hs hP h2 h8 hn hc hcm hp hk ho rfl hq
  have HT : Hid (∀ w : World, Sl w w.heap.size 1 A1 n1 (zs.map (Value.int .i64)) → Calls Try.prog 32 #[.agg #[.int .i64 r.p, .int .i64 r.s, .bool r.st, .bool r.sk, .bool r.re, .bool r.fe, .bool r.ag, .int .i64 r.ca, .int .i64 r.sl], .agg #[.slice A1 n1 c1, .slice A2 n2 c2, .int .i64 last, .int .i64 laps], .int .i64 p] w (TkPost (takenL P p r.ca last zs) w)) := fun w hs => taken_any r P p last zs A1 A2 n1 c1 n2 c2 laps _ w hs hP h2 h8 hn hk ho rfl
  have S1 := Lib.hid s1
  have HL : Hid ((if r.sl = 2 ∧ q = true then [] else takenL P p r.ca last zs) = l) := by unfold Hid; rw [← hl, capL, hq]
  clear s1 hP hl hq ho hk hc hcm hn
  cases p1 : (r.sl == 2)
  case false =>
    obtain rfl : takenL P p r.ca last zs = l := by rw [← HL.out, if_neg (fun h => absurd h.1 (beq_eq_false_iff_ne.1 p1))]
    go_enter Try.func16, Try.ntmps16
    go_wp2_with fail
    with_reducible refine Calls.mono (HT.out _ ?_) ?_
    · exact S1.out.later (by (repeat' (first | (with_reducible exact Below.refl _ _) | (with_reducible assumption) | (with_reducible refine Below.alloc ?_ ?_ _) | (with_reducible refine Below.drew ?_) | (with_reducible refine belowDrewN ?_ _) | (with_reducible refine Below.setCell ?_ ?_ _) | (with_reducible refine Below.via (by with_reducible assumption) ?_ ?_) | (with_reducible refine Below.viaD (by with_reducible assumption) ?_ ?_) | (with_reducible exact Below.size (by with_reducible assumption)) | go_size | (with_reducible refine Nat.le_trans ?_ (Below.size (by with_reducible assumption))) | (with_reducible refine Nat.le_trans ?_ (sizeAlloc _ _)) | (with_reducible refine Nat.le_trans ?_ (sizeSet _ _ _)) | (with_reducible refine Nat.le_trans ?_ (sizeDrew _)))))
    rintro e w2 ⟨A', g, cap, rfl, hg, hnc, hcm, hown, hb2⟩
    go_wp2_with fail
    go_ret
    exact ⟨A', g, cap, rfl, by simp only [World.size_alloc] at hg; omega, hnc, hcm, hown, by (repeat' (first | (with_reducible exact Below.refl _ _) | (with_reducible assumption) | (with_reducible refine Below.alloc ?_ ?_ _) | (with_reducible refine Below.drew ?_) | (with_reducible refine belowDrewN ?_ _) | (with_reducible refine Below.setCell ?_ ?_ _) | (with_reducible refine Below.via (by with_reducible assumption) ?_ ?_) | (with_reducible refine Below.viaD (by with_reducible assumption) ?_ ?_) | (with_reducible exact Below.size (by with_reducible assumption)) | go_size | (with_reducible refine Nat.le_trans ?_ (Below.size (by with_reducible assumption))) | (with_reducible refine Nat.le_trans ?_ (sizeAlloc _ _)) | (with_reducible refine Nat.le_trans ?_ (sizeSet _ _ _)) | (with_reducible refine Nat.le_trans ?_ (sizeDrew _))))⟩
  case true =>
    cases q
    case false =>
      obtain rfl : takenL P p r.ca last zs = l := by rw [← HL.out, if_neg (fun h => by simp at h)]
      go_enter Try.func16, Try.ntmps16
      go_wp2_with fail
      with_reducible refine Calls.mono (HS.out _ ?_) ?_
      · exact S1.out.later (by (repeat' (first | (with_reducible exact Below.refl _ _) | (with_reducible assumption) | (with_reducible refine Below.alloc ?_ ?_ _) | (with_reducible refine Below.drew ?_) | (with_reducible refine belowDrewN ?_ _) | (with_reducible refine Below.setCell ?_ ?_ _) | (with_reducible refine Below.via (by with_reducible assumption) ?_ ?_) | (with_reducible refine Below.viaD (by with_reducible assumption) ?_ ?_) | (with_reducible exact Below.size (by with_reducible assumption)) | go_size | (with_reducible refine Nat.le_trans ?_ (Below.size (by with_reducible assumption))) | (with_reducible refine Nat.le_trans ?_ (sizeAlloc _ _)) | (with_reducible refine Nat.le_trans ?_ (sizeSet _ _ _)) | (with_reducible refine Nat.le_trans ?_ (sizeDrew _)))))
      rintro e w1 ⟨rfl, hb1⟩
      have HB1 : Hid (Below w.heap.size w w1) := by unfold Hid; (repeat' (first | (with_reducible exact Below.refl _ _) | (with_reducible assumption) | (with_reducible refine Below.alloc ?_ ?_ _) | (with_reducible refine Below.drew ?_) | (with_reducible refine belowDrewN ?_ _) | (with_reducible refine Below.setCell ?_ ?_ _) | (with_reducible refine Below.via (by with_reducible assumption) ?_ ?_) | (with_reducible refine Below.viaD (by with_reducible assumption) ?_ ?_) | (with_reducible exact Below.size (by with_reducible assumption)) | go_size | (with_reducible refine Nat.le_trans ?_ (Below.size (by with_reducible assumption))) | (with_reducible refine Nat.le_trans ?_ (sizeAlloc _ _)) | (with_reducible refine Nat.le_trans ?_ (sizeSet _ _ _)) | (with_reducible refine Nat.le_trans ?_ (sizeDrew _))))
      obtain ⟨hc1, hf1, hl1', hz1⟩ := bfacts hb1
      go_wp2_with fail
      with_reducible refine Calls.mono (HT.out _ ?_) ?_
      · exact S1.out.later HB1.out
      rintro e w2 ⟨A', g, cap, rfl, hg, hnc, hcm, hown, hb2⟩
      go_wp2_with fail
      go_ret
      exact ⟨A', g, cap, rfl, Nat.le_trans HB1.out.size hg, hnc, hcm, hown, Below.via hb2 HB1.out HB1.out.size⟩
    case true =>
      obtain rfl : l = [] := by rw [← HL.out, if_pos ⟨beq_iff_eq.1 p1, rfl⟩]
      go_enter Try.func16, Try.ntmps16
      go_wp2_with fail
      with_reducible refine Calls.mono (HS.out _ ?_) ?_
      · exact S1.out.later (by (repeat' (first | (with_reducible exact Below.refl _ _) | (with_reducible assumption) | (with_reducible refine Below.alloc ?_ ?_ _) | (with_reducible refine Below.drew ?_) | (with_reducible refine belowDrewN ?_ _) | (with_reducible refine Below.setCell ?_ ?_ _) | (with_reducible refine Below.via (by with_reducible assumption) ?_ ?_) | (with_reducible refine Below.viaD (by with_reducible assumption) ?_ ?_) | (with_reducible exact Below.size (by with_reducible assumption)) | go_size | (with_reducible refine Nat.le_trans ?_ (Below.size (by with_reducible assumption))) | (with_reducible refine Nat.le_trans ?_ (sizeAlloc _ _)) | (with_reducible refine Nat.le_trans ?_ (sizeSet _ _ _)) | (with_reducible refine Nat.le_trans ?_ (sizeDrew _)))))
      rintro e w1 ⟨rfl, hb1⟩
      go_wp2_with fail
      go_ret
      exact ⟨_, w.heap.size, 0, rfl, by omega, Nat.le_refl _, Nat.zero_le _, OwnV.none _ _ _ _ _, by (repeat' (first | (with_reducible exact Below.refl _ _) | (with_reducible assumption) | (with_reducible refine Below.alloc ?_ ?_ _) | (with_reducible refine Below.drew ?_) | (with_reducible refine belowDrewN ?_ _) | (with_reducible refine Below.setCell ?_ ?_ _) | (with_reducible refine Below.via (by with_reducible assumption) ?_ ?_) | (with_reducible refine Below.viaD (by with_reducible assumption) ?_ ?_) | (with_reducible exact Below.size (by with_reducible assumption)) | go_size | (with_reducible refine Nat.le_trans ?_ (Below.size (by with_reducible assumption))) | (with_reducible refine Nat.le_trans ?_ (sizeAlloc _ _)) | (with_reducible refine Nat.le_trans ?_ (sizeSet _ _ _)) | (with_reducible refine Nat.le_trans ?_ (sizeDrew _))))⟩
/-- Whether seeds after sowing capture all of the other's. -/
def slamR (r : Ru) (d : SownD) (pl : Int) : Bool := okSown r d pl && slamB r.p.toNat pl.toNat d.pits (takenL r.p.toNat pl.toNat r.ca d.last d.pits)
set_option maxRecDepth 100000 in
set_option maxHeartbeats 2000000 in
theorem IsSlam_any (r : Ru) (A1 A2 : Option Addr) (n1 c1 n2 c2 : Nat) (d : SownD) (pl : Int) (q : Bool) (w : World) (s1 : Sl w w.heap.size 1 A1 n1 (d.pits.map (Value.int .i64))) (s2 : Sl w w.heap.size 1 A2 n2 (d.stores.map (Value.int .i64))) (hc : n1 ≤ c1) (hcm : c1 ≤ 9223372036854775807) (hsz : szSown d ≤ 1048576) (hq : slamR r d pl = q) :
    Calls Try.prog 10 #[.agg #[.int .i64 r.p, .int .i64 r.s, .bool r.st, .bool r.sk, .bool r.re, .bool r.fe, .bool r.ag, .int .i64 r.ca, .int .i64 r.sl], .agg #[.slice A1 n1 c1, .slice A2 n2 c2, .int .i64 d.last, .int .i64 d.laps], .int .i64 pl] w fun e w' => e = .returned (.bool q) ∧ Below w.heap.size w w' := by
  have HV : Hid (∀ w' q, Below w.heap.size w w' → okSown r d pl = q → Calls Try.prog 15 #[.agg #[.int .i64 r.p, .int .i64 r.s, .bool r.st, .bool r.sk, .bool r.re, .bool r.fe, .bool r.ag, .int .i64 r.ca, .int .i64 r.sl], .agg #[.slice A1 n1 c1, .slice A2 n2 c2, .int .i64 d.last, .int .i64 d.laps], .int .i64 pl] w' fun e w'' => e = .returned (.bool q) ∧ Below w'.heap.size w' w'') := fun w' q hb h => ValidSown_any r A1 A2 n1 c1 n2 c2 d pl q w' (s1.later hb) (s2.later hb) hsz h
  cases g1 : okSown r d pl
  case false =>
    obtain rfl : q = false := by rw [← hq, slamR, g1]; rfl
    have G1 := Lib.hid g1
    clear g1 hq s1 s2
    go_enter Try.func10, Try.ntmps10
    go_wp2_with fail
    with_reducible refine Calls.mono (HV.out _ false ?_ G1.out) ?_
    · (repeat' (first | (with_reducible exact Below.refl _ _) | (with_reducible assumption) | (with_reducible refine Below.alloc ?_ ?_ _) | (with_reducible refine Below.drew ?_) | (with_reducible refine belowDrewN ?_ _) | (with_reducible refine Below.setCell ?_ ?_ _) | (with_reducible refine Below.via (by with_reducible assumption) ?_ ?_) | (with_reducible refine Below.viaD (by with_reducible assumption) ?_ ?_) | (with_reducible exact Below.size (by with_reducible assumption)) | go_size | (with_reducible refine Nat.le_trans ?_ (Below.size (by with_reducible assumption))) | (with_reducible refine Nat.le_trans ?_ (sizeAlloc _ _)) | (with_reducible refine Nat.le_trans ?_ (sizeSet _ _ _)) | (with_reducible refine Nat.le_trans ?_ (sizeDrew _))))
    rintro e w1 ⟨rfl, hb1⟩
    go_wp2_with fail
    go_ret
    exact ⟨rfl, by (repeat' (first | (with_reducible exact Below.refl _ _) | (with_reducible assumption) | (with_reducible refine Below.alloc ?_ ?_ _) | (with_reducible refine Below.drew ?_) | (with_reducible refine belowDrewN ?_ _) | (with_reducible refine Below.setCell ?_ ?_ _) | (with_reducible refine Below.via (by with_reducible assumption) ?_ ?_) | (with_reducible refine Below.viaD (by with_reducible assumption) ?_ ?_) | (with_reducible exact Below.size (by with_reducible assumption)) | go_size | (with_reducible refine Nat.le_trans ?_ (Below.size (by with_reducible assumption))) | (with_reducible refine Nat.le_trans ?_ (sizeAlloc _ _)) | (with_reducible refine Nat.le_trans ?_ (sizeSet _ _ _)) | (with_reducible refine Nat.le_trans ?_ (sizeDrew _))))⟩
  case true =>
    obtain ⟨P, p, hP, h2, h8, hn, hn', hd, hp, ho, ho', hk⟩ := okSown_of g1
    have hq2 : slamB P p d.pits (takenL P p r.ca d.last d.pits) = q := by rw [← hq, slamR, g1, hP, hd, Int.toNat_natCast, Int.toNat_natCast]; rfl
    have hn1 : n1 = 2 * P := by have := s1.ints; omega
    have HS : Hid (∀ w', Below w.heap.size w w' → Calls Try.prog 19 #[.agg #[.int .i64 r.p, .int .i64 r.s, .bool r.st, .bool r.sk, .bool r.re, .bool r.fe, .bool r.ag, .int .i64 r.ca, .int .i64 r.sl], .agg #[.slice A1 n1 c1, .slice A2 n2 c2, .int .i64 d.last, .int .i64 d.laps], .int .i64 p] w' fun e w'' => e = .returned (.bool q) ∧ Below w'.heap.size w' w'') := fun w' hb => slams_any r P p d.last d.pits A1 A2 n1 c1 n2 c2 d.laps _ q w' (s1.later hb) hP h2 h8 hn1 hc hcm hp hk ho rfl hq2
    rw [hd] at HV g1
    have G1 := Lib.hid g1
    subst hd
    clear g1 hq hq2 s1 s2 hP ho ho' hk hn hn' hn1
    go_enter Try.func10, Try.ntmps10
    go_wp2_with fail
    with_reducible refine Calls.mono (HV.out _ true ?_ G1.out) ?_
    · (repeat' (first | (with_reducible exact Below.refl _ _) | (with_reducible assumption) | (with_reducible refine Below.alloc ?_ ?_ _) | (with_reducible refine Below.drew ?_) | (with_reducible refine belowDrewN ?_ _) | (with_reducible refine Below.setCell ?_ ?_ _) | (with_reducible refine Below.via (by with_reducible assumption) ?_ ?_) | (with_reducible refine Below.viaD (by with_reducible assumption) ?_ ?_) | (with_reducible exact Below.size (by with_reducible assumption)) | go_size | (with_reducible refine Nat.le_trans ?_ (Below.size (by with_reducible assumption))) | (with_reducible refine Nat.le_trans ?_ (sizeAlloc _ _)) | (with_reducible refine Nat.le_trans ?_ (sizeSet _ _ _)) | (with_reducible refine Nat.le_trans ?_ (sizeDrew _))))
    rintro e w1 ⟨rfl, hb1⟩
    have HB1 : Hid (Below w.heap.size w w1) := by unfold Hid; (repeat' (first | (with_reducible exact Below.refl _ _) | (with_reducible assumption) | (with_reducible refine Below.alloc ?_ ?_ _) | (with_reducible refine Below.drew ?_) | (with_reducible refine belowDrewN ?_ _) | (with_reducible refine Below.setCell ?_ ?_ _) | (with_reducible refine Below.via (by with_reducible assumption) ?_ ?_) | (with_reducible refine Below.viaD (by with_reducible assumption) ?_ ?_) | (with_reducible exact Below.size (by with_reducible assumption)) | go_size | (with_reducible refine Nat.le_trans ?_ (Below.size (by with_reducible assumption))) | (with_reducible refine Nat.le_trans ?_ (sizeAlloc _ _)) | (with_reducible refine Nat.le_trans ?_ (sizeSet _ _ _)) | (with_reducible refine Nat.le_trans ?_ (sizeDrew _))))
    obtain ⟨hc1, hf1, hl1', hz1⟩ := bfacts hb1
    go_wp2_with fail
    with_reducible refine Calls.mono (HS.out _ ?_) ?_
    · exact HB1.out
    rintro e w2 ⟨rfl, hb2⟩
    go_wp2_with fail
    go_ret
    exact ⟨rfl, Below.via hb2 HB1.out HB1.out.size⟩
end Go.Proofs.Ytcfbihponecblaa
