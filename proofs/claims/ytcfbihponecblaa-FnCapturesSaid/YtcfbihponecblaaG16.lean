/- Captures: slams, by the program. Conditions: lengths below 2^20. -/
import Derived.Test.YtcfbihponecblaaG15
/- Captures: what is taken, by the reference, in all kinds. Conditions: lengths below 2^20. -/
namespace Go.Proofs.Ytcfbihponecblaa
set_option linter.unusedSimpArgs false
set_option linter.unusedVariables false
open Go.RowKit

theorem row_drewN {w : World} {base : Nat} {e : TypeId} {size n : Nat} {v : Value} {xs : List Value} (h : w.ownsRow base e size v n xs) (k : Nat) : (w.drewN k).ownsRow base e size v n xs := h
end Go.Proofs.Ytcfbihponecblaa
/- Captures: slams, by the program. Conditions: lengths below 2^20. -/
namespace Go.Proofs.Ytcfbihponecblaa
set_option linter.unusedSimpArgs false
set_option linter.unusedVariables false
open Go.RowKit

/-- What the first pits of a list hold that are not the player's. -/
def goneV (P : Nat) (pl : Int) (zs l : List Int) : Nat → Int
  | 0 => 0
  | i + 1 => goneV P pl zs l i + (if ownI P (l.getD i 0).toNat != pl then zs.getD (l.getD i 0).toNat 0 else 0)
def slamB (P p : Nat) (zs l : List Int) : Bool := decide (0 < goneV P p zs l l.length) && (sideV zs P (1 - p) == goneV P p zs l l.length)
theorem okL_bd {zs : List Int} (h : okL zs = true) {k : Nat} (hk : k < zs.length) : 0 ≤ zs.getD k 0 ∧ zs.getD k 0 ≤ 96 := inB_of (List.all_eq_true.1 h _ (getD_mem 0 hk))
theorem goneV_bd {P : Nat} {pl : Int} {zs l : List Int} (h : okL zs = true) (hz : zs.length = 2 * P) (hl : inPits P l) : ∀ i, i ≤ l.length → 0 ≤ goneV P pl zs l i ∧ goneV P pl zs l i ≤ 96 * (i : Int) := by
  intro i
  induction i with
  | zero => intro _; simp [goneV]
  | succ i ih =>
    intro hi
    have h1 := ih (by omega)
    obtain ⟨m, e, hm⟩ := hl.2 i (by omega)
    have h2 := okL_bd h (show m < zs.length by omega)
    rw [goneV, e, Int.toNat_natCast]
    split <;> constructor <;> omega
theorem side_lit (r : Ru) (P pl : Nat) (v : Int) (A : Option Addr) (n c : Nat) (zs : List Int) (hP : r.p = (P : Int)) (h2 : 2 ≤ P) (h8 : P ≤ 8) (hn : n = 2 * P) (hc : n ≤ c) (hcm : c ≤ 9223372036854775807) (hpl : pl < 2) (ho : okL zs = true) (hv : sideV zs P pl = v) :
    ∀ w : World, Sl w w.heap.size 1 A n (zs.map (Value.int .i64)) → Calls Try.prog 33 #[.agg #[.int .i64 r.p, .int .i64 r.s, .bool r.st, .bool r.sk, .bool r.re, .bool r.fe, .bool r.ag, .int .i64 r.ca, .int .i64 r.sl], .slice A n c, .int .i64 pl] w fun e w' => e = .returned (.int .i64 v) ∧ Below w.heap.size w w' := by
  subst hv
  exact fun w hs => side_any r P pl A n c zs w hs hP h2 h8 hn hc hcm hpl ho
set_option maxRecDepth 100000 in
set_option maxHeartbeats 2000000 in
theorem slams_any (r : Ru) (P p : Nat) (last : Int) (zs : List Int) (A1 A2 : Option Addr) (n1 c1 n2 c2 : Nat) (laps : Int) (l : List Int) (q : Bool) (w : World) (s1 : Sl w w.heap.size 1 A1 n1 (zs.map (Value.int .i64))) (hP : r.p = (P : Int)) (h2 : 2 ≤ P) (h8 : P ≤ 8) (hn : n1 = 2 * P) (hc : n1 ≤ c1) (hcm : c1 ≤ 9223372036854775807) (hp : p < 2) (hk : last < 2 * (P : Int)) (ho : okL zs = true) (hl : takenL P p r.ca last zs = l) (hq : slamB P p zs l = q) :
    Calls Try.prog 19 #[.agg #[.int .i64 r.p, .int .i64 r.s, .bool r.st, .bool r.sk, .bool r.re, .bool r.fe, .bool r.ag, .int .i64 r.ca, .int .i64 r.sl], .agg #[.slice A1 n1 c1, .slice A2 n2 c2, .int .i64 last, .int .i64 laps], .int .i64 p] w fun e w' => e = .returned (.bool q) ∧ Below w.heap.size w w' := by
  have hzl := s1.ints
  rw [hn] at hzl
  have HI : Hid (inPits P l) := by unfold Hid; rw [← hl]; exact takenL_in h2 hk
  have HB : Hid (∀ i, i ≤ l.length → 0 ≤ goneV P p zs l i ∧ goneV P p zs l i ≤ 96 * (i : Int)) := goneV_bd ho hzl HI.out
  have hll := HI.out.1
  have HT : Hid (∀ w : World, Sl w w.heap.size 1 A1 n1 (zs.map (Value.int .i64)) → Calls Try.prog 32 #[.agg #[.int .i64 r.p, .int .i64 r.s, .bool r.st, .bool r.sk, .bool r.re, .bool r.fe, .bool r.ag, .int .i64 r.ca, .int .i64 r.sl], .agg #[.slice A1 n1 c1, .slice A2 n2 c2, .int .i64 last, .int .i64 laps], .int .i64 p] w (TkPost l w)) := fun w hs => taken_any r P p last zs A1 A2 n1 c1 n2 c2 laps l w hs hP h2 h8 hn hk ho hl
  obtain ⟨v, hv⟩ : ∃ v, sideV zs P (1 - p) = v := ⟨_, rfl⟩
  have hsv := side_lit r P (1 - p) v A1 n1 c1 zs hP h2 h8 hn hc hcm (by omega) ho hv
  rw [show ((1 - p : Nat) : Int) = 1 - (p : Int) from by omega] at hsv
  have HV := Lib.hid hsv
  clear hsv
  have HQ : Hid ((decide (0 < goneV P p zs l l.length) && (v == goneV P p zs l l.length)) = q) := by unfold Hid; rw [← hq, ← hv]; rfl
  have HP := Lib.hid hP
  have S1 := Lib.hid s1
  have HO := Lib.hid ho
  subst hn
  clear hP s1 hl hq hv ho hk hc hcm
  have hw0 : IntKind.i64.wrap 0 = 0 := rfl
  have hw1 : IntKind.i64.wrap 1 = 1 := rfl
  go_enter Try.func19, Try.ntmps19
  go_wp2_with fail
  with_reducible refine Calls.mono (HV.out _ ?_) ?_
  · exact S1.out.later (by (repeat' (first | (with_reducible exact Below.refl _ _) | (with_reducible assumption) | (with_reducible refine Below.alloc ?_ ?_ _) | (with_reducible refine Below.drew ?_) | (with_reducible refine belowDrewN ?_ _) | (with_reducible refine Below.setCell ?_ ?_ _) | (with_reducible refine Below.via (by with_reducible assumption) ?_ ?_) | (with_reducible refine Below.viaD (by with_reducible assumption) ?_ ?_) | (with_reducible exact Below.size (by with_reducible assumption)) | go_size | (with_reducible refine Nat.le_trans ?_ (Below.size (by with_reducible assumption))) | (with_reducible refine Nat.le_trans ?_ (sizeAlloc _ _)) | (with_reducible refine Nat.le_trans ?_ (sizeSet _ _ _)) | (with_reducible refine Nat.le_trans ?_ (sizeDrew _)))))
  rintro e w1 ⟨rfl, hb1⟩
  have HB1 := Lib.hid hb1
  obtain ⟨hc1, hf1, hl1', hz1⟩ := bfacts hb1
  go_wp2_with fail
  with_reducible refine Calls.mono (HT.out _ ?_) ?_
  · exact S1.out.later (by (repeat' (first | (with_reducible exact Below.refl _ _) | (with_reducible assumption) | (with_reducible refine Below.alloc ?_ ?_ _) | (with_reducible refine Below.drew ?_) | (with_reducible refine belowDrewN ?_ _) | (with_reducible refine Below.setCell ?_ ?_ _) | (with_reducible refine Below.via (by with_reducible assumption) ?_ ?_) | (with_reducible refine Below.viaD (by with_reducible assumption) ?_ ?_) | (with_reducible exact Below.size (by with_reducible assumption)) | go_size | (with_reducible refine Nat.le_trans ?_ (Below.size (by with_reducible assumption))) | (with_reducible refine Nat.le_trans ?_ (sizeAlloc _ _)) | (with_reducible refine Nat.le_trans ?_ (sizeSet _ _ _)) | (with_reducible refine Nat.le_trans ?_ (sizeDrew _)))))
  rintro e w2 ⟨A', g, cap, rfl, hg, hnc, hcm, hown, hb2⟩
  have HC2 : Hid (Below ((w.alloc (.cells #[.int .i64 r.p, .int .i64 r.s, .bool r.st, .bool r.sk, .bool r.re, .bool r.fe, .bool r.ag, .int .i64 r.ca, .int .i64 r.sl] 25)).alloc (.cells #[.slice A1 (2 * P) c1, .slice A2 n2 c2, .int .i64 last, .int .i64 laps] 28)).heap.size ((w.alloc (.cells #[.int .i64 r.p, .int .i64 r.s, .bool r.st, .bool r.sk, .bool r.re, .bool r.fe, .bool r.ag, .int .i64 r.ca, .int .i64 r.sl] 25)).alloc (.cells #[.slice A1 (2 * P) c1, .slice A2 n2 c2, .int .i64 last, .int .i64 laps] 28)) w2) := Lib.hid (Below.via hb2 HB1.out HB1.out.size)
  have HOW := Lib.hid hown.sl
  clear hc1 hf1 hl1' hz1 hb1 hb2 hown
  go_wp2_with fail
  go_loopw [8, 22] (fun u i wr => ∃ k : Nat, k ≤ l.length ∧ i = .int .i64 k ∧ u = .int .i64 (goneV P p zs l k) ∧ Below w2.heap.size w2 wr) (fun _ i _ => l.length - (intOf i).toNat)
  case atStart => exact ⟨0, Nat.zero_le _, by simp, rfl, by (repeat' (first | (with_reducible exact Below.refl _ _) | (with_reducible assumption) | (with_reducible refine Below.alloc ?_ ?_ _) | (with_reducible refine Below.drew ?_) | (with_reducible refine belowDrewN ?_ _) | (with_reducible refine Below.setCell ?_ ?_ _) | (with_reducible refine Below.via (by with_reducible assumption) ?_ ?_) | (with_reducible refine Below.viaD (by with_reducible assumption) ?_ ?_) | (with_reducible exact Below.size (by with_reducible assumption)) | go_size | (with_reducible refine Nat.le_trans ?_ (Below.size (by with_reducible assumption))) | (with_reducible refine Nat.le_trans ?_ (sizeAlloc _ _)) | (with_reducible refine Nat.le_trans ?_ (sizeSet _ _ _)) | (with_reducible refine Nat.le_trans ?_ (sizeDrew _))))⟩
  case round =>
    obtain ⟨k, hk, rfl, rfl, hbl⟩ := hrel
    have C3 : Below ((w.alloc (.cells #[.int .i64 r.p, .int .i64 r.s, .bool r.st, .bool r.sk, .bool r.re, .bool r.fe, .bool r.ag, .int .i64 r.ca, .int .i64 r.sl] 25)).alloc (.cells #[.slice A1 (2 * P) c1, .slice A2 n2 c2, .int .i64 last, .int .i64 laps] 28)).heap.size ((w.alloc (.cells #[.int .i64 r.p, .int .i64 r.s, .bool r.st, .bool r.sk, .bool r.re, .bool r.fe, .bool r.ag, .int .i64 r.ca, .int .i64 r.sl] 25)).alloc (.cells #[.slice A1 (2 * P) c1, .slice A2 n2 c2, .int .i64 last, .int .i64 laps] 28)) wr := Below.via hbl HC2.out HC2.out.size
    obtain ⟨⟨e0, e1, e2, e3, e4, e5, e6, e7, e8⟩, ⟨d0, d1, d2, d3⟩, hBw⟩ := caps_at w r _ _ _ _ _ _ C3
    have hbs := C3.size
    simp only [World.size_alloc] at hbs
    have hlt0 : w.heap.size < wr.heap.size := by omega
    have hlt1 : w.heap.size + 1 < wr.heap.size := by omega
    have HBL := Lib.hid hbl
    have HC3 := Lib.hid C3
    obtain ⟨hb1, hb2⟩ := HB.out k hk
    clear hbl C3
    by_cases hlt : k < l.length
    · obtain ⟨bl, ol, x, rfl, hbl, HX, hxc⟩ := (HOW.out.later HBL.out).int hlt
      obtain ⟨m, hm, hm2⟩ := HI.out.2 k hlt
      obtain rfl : (m : Int) = x := hm.symm.trans HX.out
      obtain ⟨b, off, z, rfl, hb, HZ, hc⟩ := (S1.out.later hBw).int hm2
      obtain ⟨z0, z1⟩ := okL_bd HO.out (show m < zs.length by omega)
      rw [HZ.out] at z0 z1
      obtain ⟨o', ho'⟩ : ∃ o', ownI P m = o' := ⟨_, rfl⟩
      have HO' := Lib.hid ho'
      have HG : Hid (goneV P p zs l (k + 1) = goneV P p zs l k + (if o' != (p : Int) then z else 0)) := by unfold Hid; rw [goneV, hm, Int.toNat_natCast, ho', HZ.out]
      clear ho' hm
      revert hb1 hb2 HG
      generalize goneV P p zs l k = u
      intro hb1 hb2 HG
      cases q1 : (o' == (p : Int))
      case true =>
        have HG2 : Hid (goneV P p zs l (k + 1) = u) := by unfold Hid; rw [HG.out, bne, q1]; simp
        have q1' : (o' != (p : Int)) = false := by rw [bne, q1]; rfl
        go_wp2_with (go_at_call 34; refine (owner_lit r P m o' _ HP.out h2 h8 hm2 HO'.out).mono ?_; rintro e w_ ⟨rfl, rfl⟩)
        go_roundw
        case rel => exact ⟨k + 1, by omega, by go_num, by rw [HG2.out], by have := HBL.out; (repeat' (first | (with_reducible exact Below.refl _ _) | (with_reducible assumption) | (with_reducible refine Below.alloc ?_ ?_ _) | (with_reducible refine Below.drew ?_) | (with_reducible refine belowDrewN ?_ _) | (with_reducible refine Below.setCell ?_ ?_ _) | (with_reducible refine Below.via (by with_reducible assumption) ?_ ?_) | (with_reducible refine Below.viaD (by with_reducible assumption) ?_ ?_) | (with_reducible exact Below.size (by with_reducible assumption)) | go_size | (with_reducible refine Nat.le_trans ?_ (Below.size (by with_reducible assumption))) | (with_reducible refine Nat.le_trans ?_ (sizeAlloc _ _)) | (with_reducible refine Nat.le_trans ?_ (sizeSet _ _ _)) | (with_reducible refine Nat.le_trans ?_ (sizeDrew _))))⟩
        case measure => first | (simp [intOf]; done) | (simp [intOf]; omega)
      case false =>
        have HG2 : Hid (goneV P p zs l (k + 1) = u + z) := by unfold Hid; rw [HG.out, bne, q1]; simp
        have q1' : (o' != (p : Int)) = true := by rw [bne, q1]; rfl
        go_wp2_with (go_at_call 34; refine (owner_lit r P m o' _ HP.out h2 h8 hm2 HO'.out).mono ?_; rintro e w_ ⟨rfl, rfl⟩)
        go_roundw
        case rel => exact ⟨k + 1, by omega, by go_num, by rw [HG2.out], by have := HBL.out; (repeat' (first | (with_reducible exact Below.refl _ _) | (with_reducible assumption) | (with_reducible refine Below.alloc ?_ ?_ _) | (with_reducible refine Below.drew ?_) | (with_reducible refine belowDrewN ?_ _) | (with_reducible refine Below.setCell ?_ ?_ _) | (with_reducible refine Below.via (by with_reducible assumption) ?_ ?_) | (with_reducible refine Below.viaD (by with_reducible assumption) ?_ ?_) | (with_reducible exact Below.size (by with_reducible assumption)) | go_size | (with_reducible refine Nat.le_trans ?_ (Below.size (by with_reducible assumption))) | (with_reducible refine Nat.le_trans ?_ (sizeAlloc _ _)) | (with_reducible refine Nat.le_trans ?_ (sizeSet _ _ _)) | (with_reducible refine Nat.le_trans ?_ (sizeDrew _))))⟩
        case measure => first | (simp [intOf]; done) | (simp [intOf]; omega)
    · obtain rfl : k = l.length := by omega
      revert hb1 hb2 HQ
      generalize goneV P p zs l l.length = u
      intro HQ hb1 hb2
      go_wp2_with fail
      all_goals
        have h9 := HQ.out
        go_ret
        subst h9
        exact ⟨by first | (simp [*]; done) | (simp [*]; omega), hBw⟩
end Go.Proofs.Ytcfbihponecblaa
