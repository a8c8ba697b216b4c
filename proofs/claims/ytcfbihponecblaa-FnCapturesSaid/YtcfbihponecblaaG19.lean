/- Captures: slams and gains, by both. Conditions: lengths below 2^20. -/
import Derived.Test.YtcfbihponecblaaG18
namespace Go.Proofs.Ytcfbihponecblaa
set_option linter.unusedSimpArgs false
set_option linter.unusedVariables false
open Go.RowKit

theorem pairCap {x x' z z' : Int} (h : (x', z') = (x, z)) : x' = x ∧ z' = z := by
  injection h with h1 h2
  exact ⟨h1, h2⟩
/-- What the first pits of a list hold. -/
def gainV (zs l : List Int) : Nat → Int
  | 0 => 0
  | i + 1 => gainV zs l i + zs.getD (l.getD i 0).toNat 0
theorem gainV_bd {P : Nat} {zs l : List Int} (h : okL zs = true) (hz : zs.length = 2 * P) (hl : inPits P l) : ∀ i, i ≤ l.length → 0 ≤ gainV zs l i ∧ gainV zs l i ≤ 96 * (i : Int) := by
  intro i
  induction i with
  | zero => intro _; simp [gainV]
  | succ i ih =>
    intro hi
    have h1 := ih (by omega)
    obtain ⟨m, e, hm⟩ := hl.2 i (by omega)
    have h2 := okL_bd h (show m < zs.length by omega)
    rw [gainV, e, Int.toNat_natCast]
    constructor <;> omega
def capR (r : Ru) (d : SownD) (pl : Int) : List Int := capL r.p.toNat pl.toNat r.ca r.sl d.last d.pits
def gainR (r : Ru) (d : SownD) (pl : Int) : Int × Int := if okSown r d pl then (gainV d.pits (capR r d pl) (capR r d pl).length, 0) else (0, 1)
/-- The boxes of a call over rules and seeds, as places. -/
theorem capsAt (w : World) (r : Ru) (A1 A2 : Option Addr) (n1 c1 n2 c2 : Nat) (d : SownD) (t t' : TypeId) (s1 : Sl w w.heap.size 1 A1 n1 (d.pits.map (Value.int .i64))) (s2 : Sl w w.heap.size 1 A2 n2 (d.stores.map (Value.int .i64))) :
    RuAt ((w.alloc (.cells #[.int .i64 r.p, .int .i64 r.s, .bool r.st, .bool r.sk, .bool r.re, .bool r.fe, .bool r.ag, .int .i64 r.ca, .int .i64 r.sl] t)).alloc (.cells #[.slice A1 n1 c1, .slice A2 n2 c2, .int .i64 d.last, .int .i64 d.laps] t')) w.heap.size 0 r ∧ SownAt ((w.alloc (.cells #[.int .i64 r.p, .int .i64 r.s, .bool r.st, .bool r.sk, .bool r.re, .bool r.fe, .bool r.ag, .int .i64 r.ca, .int .i64 r.sl] t)).alloc (.cells #[.slice A1 n1 c1, .slice A2 n2 c2, .int .i64 d.last, .int .i64 d.laps] t')) (w.heap.size + 1) 0 A1 n1 c1 A2 n2 c2 d := by
  have hB : Below w.heap.size w ((w.alloc (.cells #[.int .i64 r.p, .int .i64 r.s, .bool r.st, .bool r.sk, .bool r.re, .bool r.fe, .bool r.ag, .int .i64 r.ca, .int .i64 r.sl] t)).alloc (.cells #[.slice A1 n1 c1, .slice A2 n2 c2, .int .i64 d.last, .int .i64 d.laps] t')) := below_boxed (w := w) (boxed_ _ _)
  have PK := Blk.new (w.alloc (.cells #[.int .i64 r.p, .int .i64 r.s, .bool r.st, .bool r.sk, .bool r.re, .bool r.fe, .bool r.ag, .int .i64 r.ca, .int .i64 r.sl] t)) t' #[.slice A1 n1 c1, .slice A2 n2 c2, .int .i64 d.last, .int .i64 d.laps]
  rw [World.size_alloc] at PK
  exact ⟨(RuAt.box _ _ _).later (boxed_ _ _), PK.cell 0, PK.cell 1, PK.cell 2, PK.cell 3, s1.later hB, s2.later hB⟩
set_option maxRecDepth 100000 in
set_option maxHeartbeats 2000000 in
theorem CaptureGain_any (r : Ru) (A1 A2 : Option Addr) (n1 c1 n2 c2 : Nat) (d : SownD) (pl v code : Int) (w : World) (s1 : Sl w w.heap.size 1 A1 n1 (d.pits.map (Value.int .i64))) (s2 : Sl w w.heap.size 1 A2 n2 (d.stores.map (Value.int .i64))) (hc : n1 ≤ c1) (hcm : c1 ≤ 9223372036854775807) (hsz : szSown d ≤ 1048576) (hq : gainR r d pl = (v, code)) :
    Calls Try.prog 7 #[.agg #[.int .i64 r.p, .int .i64 r.s, .bool r.st, .bool r.sk, .bool r.re, .bool r.fe, .bool r.ag, .int .i64 r.ca, .int .i64 r.sl], .agg #[.slice A1 n1 c1, .slice A2 n2 c2, .int .i64 d.last, .int .i64 d.laps], .int .i64 pl] w fun e w' => e = .returned (.tuple #[.int .i64 v, .int .i64 code]) ∧ Below w.heap.size w w' := by
  have HV : Hid (∀ w' q, Below w.heap.size w w' → okSown r d pl = q → Calls Try.prog 15 #[.agg #[.int .i64 r.p, .int .i64 r.s, .bool r.st, .bool r.sk, .bool r.re, .bool r.fe, .bool r.ag, .int .i64 r.ca, .int .i64 r.sl], .agg #[.slice A1 n1 c1, .slice A2 n2 c2, .int .i64 d.last, .int .i64 d.laps], .int .i64 pl] w' fun e w'' => e = .returned (.bool q) ∧ Below w'.heap.size w' w'') := fun w' q hb h => ValidSown_any r A1 A2 n1 c1 n2 c2 d pl q w' (s1.later hb) (s2.later hb) hsz h
  unfold gainR at hq
  cases g1 : okSown r d pl
  case false =>
    rw [g1, if_neg (by simp)] at hq
    obtain ⟨rfl, rfl⟩ := pairCap hq
    have G1 := Lib.hid g1
    clear g1 hq s1 s2
    go_enter Try.func7, Try.ntmps7
    go_wp2_with fail
    with_reducible refine Calls.mono (HV.out _ false ?_ G1.out) ?_
    · (repeat' (first | (with_reducible exact Below.refl _ _) | (with_reducible assumption) | (with_reducible refine Below.alloc ?_ ?_ _) | (with_reducible refine Below.drew ?_) | (with_reducible refine belowDrewN ?_ _) | (with_reducible refine Below.setCell ?_ ?_ _) | (with_reducible refine Below.via (by with_reducible assumption) ?_ ?_) | (with_reducible refine Below.viaD (by with_reducible assumption) ?_ ?_) | (with_reducible exact Below.size (by with_reducible assumption)) | go_size | (with_reducible refine Nat.le_trans ?_ (Below.size (by with_reducible assumption))) | (with_reducible refine Nat.le_trans ?_ (sizeAlloc _ _)) | (with_reducible refine Nat.le_trans ?_ (sizeSet _ _ _)) | (with_reducible refine Nat.le_trans ?_ (sizeDrew _))))
    rintro e w1 ⟨rfl, hb1⟩
    go_wp2_with fail
    go_ret2
    exact ⟨rfl, by (repeat' (first | (with_reducible exact Below.refl _ _) | (with_reducible assumption) | (with_reducible refine Below.alloc ?_ ?_ _) | (with_reducible refine Below.drew ?_) | (with_reducible refine belowDrewN ?_ _) | (with_reducible refine Below.setCell ?_ ?_ _) | (with_reducible refine Below.via (by with_reducible assumption) ?_ ?_) | (with_reducible refine Below.viaD (by with_reducible assumption) ?_ ?_) | (with_reducible exact Below.size (by with_reducible assumption)) | go_size | (with_reducible refine Nat.le_trans ?_ (Below.size (by with_reducible assumption))) | (with_reducible refine Nat.le_trans ?_ (sizeAlloc _ _)) | (with_reducible refine Nat.le_trans ?_ (sizeSet _ _ _)) | (with_reducible refine Nat.le_trans ?_ (sizeDrew _))))⟩
  case true =>
    rw [g1, if_pos rfl] at hq
    obtain ⟨hv, rfl⟩ := pairCap hq
    obtain ⟨P, p, hP, h2, h8, hn, hn', hd, hp, ho, ho', hk⟩ := okSown_of g1
    have hn1 : n1 = 2 * P := by have := s1.ints; omega
    obtain ⟨l, hl⟩ : ∃ l, capR r d pl = l := ⟨_, rfl⟩
    rw [hl] at hv
    have hl2 : capL P p r.ca r.sl d.last d.pits = l := by rw [← hl, capR, hP, hd, Int.toNat_natCast, Int.toNat_natCast]
    have HI : Hid (inPits P l) := by unfold Hid; rw [← hl2]; exact capL_in h2 hk
    have hll := HI.out.1
    have HB : Hid (∀ i, i ≤ l.length → 0 ≤ gainV d.pits l i ∧ gainV d.pits l i ≤ 96 * (i : Int)) := gainV_bd ho hn HI.out
    have HC : Hid (∀ w', Below w.heap.size w w' → Calls Try.prog 16 #[.agg #[.int .i64 r.p, .int .i64 r.s, .bool r.st, .bool r.sk, .bool r.re, .bool r.fe, .bool r.ag, .int .i64 r.ca, .int .i64 r.sl], .agg #[.slice A1 n1 c1, .slice A2 n2 c2, .int .i64 d.last, .int .i64 d.laps], .int .i64 p] w' (TkPost l w')) := fun w' hb => captured_any r P p d.last d.pits A1 A2 n1 c1 n2 c2 d.laps l w' (s1.later hb) hP h2 h8 hn1 hc hcm hp hk ho hl2
    rw [hd] at HV g1
    have G1 := Lib.hid g1
    have HVV := Lib.hid hv
    have HO := Lib.hid ho
    have S1 := Lib.hid s1
    have HN := Lib.hid hn
    subst hd hn1
    clear g1 hq hl hl2 s1 s2 hP ho ho' hk hn hn' hv hc
    go_enter Try.func7, Try.ntmps7
    go_wp2_with fail
    with_reducible refine Calls.mono (HV.out _ true ?_ G1.out) ?_
    · (repeat' (first | (with_reducible exact Below.refl _ _) | (with_reducible assumption) | (with_reducible refine Below.alloc ?_ ?_ _) | (with_reducible refine Below.drew ?_) | (with_reducible refine belowDrewN ?_ _) | (with_reducible refine Below.setCell ?_ ?_ _) | (with_reducible refine Below.via (by with_reducible assumption) ?_ ?_) | (with_reducible refine Below.viaD (by with_reducible assumption) ?_ ?_) | (with_reducible exact Below.size (by with_reducible assumption)) | go_size | (with_reducible refine Nat.le_trans ?_ (Below.size (by with_reducible assumption))) | (with_reducible refine Nat.le_trans ?_ (sizeAlloc _ _)) | (with_reducible refine Nat.le_trans ?_ (sizeSet _ _ _)) | (with_reducible refine Nat.le_trans ?_ (sizeDrew _))))
    rintro e w1 ⟨rfl, hb1⟩
    have HB1 := Lib.hid hb1
    have HW1 : Hid (Below w.heap.size w w1) := by unfold Hid; (repeat' (first | (with_reducible exact Below.refl _ _) | (with_reducible assumption) | (with_reducible refine Below.alloc ?_ ?_ _) | (with_reducible refine Below.drew ?_) | (with_reducible refine belowDrewN ?_ _) | (with_reducible refine Below.setCell ?_ ?_ _) | (with_reducible refine Below.via (by with_reducible assumption) ?_ ?_) | (with_reducible refine Below.viaD (by with_reducible assumption) ?_ ?_) | (with_reducible exact Below.size (by with_reducible assumption)) | go_size | (with_reducible refine Nat.le_trans ?_ (Below.size (by with_reducible assumption))) | (with_reducible refine Nat.le_trans ?_ (sizeAlloc _ _)) | (with_reducible refine Nat.le_trans ?_ (sizeSet _ _ _)) | (with_reducible refine Nat.le_trans ?_ (sizeDrew _))))
    obtain ⟨hc1, hf1, hl1', hz1⟩ := bfacts hb1
    go_wp2_with fail
    with_reducible refine Calls.mono (HC.out _ ?_) ?_
    · exact HW1.out
    rintro e w2 ⟨A', g, cap, rfl, hg, hnc, hcm', hown, hb2⟩
    have HC2 := Lib.hid (Below.via hb2 HB1.out HB1.out.size)
    have HOW := Lib.hid hown.sl
    clear hc1 hf1 hl1' hz1 hb1 hb2 hown
    go_wp2_with fail
    go_loopw [8, 21] (fun u i wr => ∃ k : Nat, k ≤ l.length ∧ i = .int .i64 k ∧ u = .int .i64 (gainV d.pits l k) ∧ wr = w2) (fun _ i _ => l.length - (intOf i).toNat)
    case atStart => exact ⟨0, Nat.zero_le _, by simp, rfl, rfl⟩
    case round =>
      obtain ⟨k, hk, rfl, rfl, rfl⟩ := hrel
      obtain ⟨⟨e0, e1, e2, e3, e4, e5, e6, e7, e8⟩, ⟨d0, d1, d2, d3⟩, hBw⟩ := caps_at w r _ _ _ _ _ _ HC2.out
      obtain ⟨hb1, hb2⟩ := HB.out k hk
      by_cases hlt : k < l.length
      · obtain ⟨bl, ol, x, rfl, hbl, HX, hxc⟩ := HOW.out.int hlt
        obtain ⟨m, hm, hm2⟩ := HI.out.2 k hlt
        obtain rfl : (m : Int) = x := hm.symm.trans HX.out
        obtain ⟨b, off, z, rfl, hb, HZ, hc⟩ := (S1.out.later hBw).int hm2
        obtain ⟨z0, z1⟩ := okL_bd HO.out (show m < d.pits.length by have := HN.out; omega)
        rw [HZ.out] at z0 z1
        have HG : Hid (gainV d.pits l (k + 1) = gainV d.pits l k + z) := by unfold Hid; rw [gainV, hm, Int.toNat_natCast, HZ.out]
        clear hm
        revert hb1 hb2 HG
        generalize gainV d.pits l k = u
        intro hb1 hb2 HG
        go_wp2_with fail
        go_roundw
        case rel => exact ⟨k + 1, by omega, by go_num, by rw [HG.out], by first | rfl | trivial⟩
        case measure => first | (simp [intOf]; done) | (simp [intOf]; omega)
      · obtain rfl : k = l.length := by omega
        rw [HVV.out]
        go_wp2_with fail
        go_ret2
        exact ⟨rfl, hBw⟩
end Go.Proofs.Ytcfbihponecblaa
