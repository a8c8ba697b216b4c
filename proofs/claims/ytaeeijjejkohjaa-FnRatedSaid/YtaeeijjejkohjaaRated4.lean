/- RatePeriod: both functions, for all arguments. Conditions: lengths below 2^63. -/
import Derived.Test.YtaeeijjejkohjaaRated3
namespace Go.Proofs.Ytaeeijjejkohjaa
set_option linter.unusedSimpArgs false
set_option linter.unusedVariables false
open Go.RowKit

def rpR (L G : List Int) (n m : Nat) : List Int × Nat × Int := if rpE L G n m = 0 then (ratedL L G n m, n, 0) else ([], 0, rpE L G n m)
theorem rpR_0 {L G : List Int} {n m : Nat} (h : rpE L G n m = 0) : rpR L G n m = (ratedL L G n m, n, 0) := by rw [rpR, if_pos h]
theorem rpR_ne {L G : List Int} {n m : Nat} {c : Int} (h : rpE L G n m = c) (hc : c ≠ 0) : rpR L G n m = ([], 0, c) := by rw [rpR, if_neg (by rw [h]; exact hc), h]
theorem rp_fin {L G l : List Int} {n m n' : Nat} {c code : Int} {w w' : World} (h : rpR L G n m = ([], 0, c)) (hr : rpR L G n m = (l, n', code)) (hb : Below w.heap.size w w') : RpPost Try.prog l n' code w (.returned (.tuple #[.slice none 0 0, .int .i64 c])) w' := by
  have e := hr.symm.trans h
  injection e with e1 e2
  injection e2 with e2 e3
  subst e1 e2 e3
  exact ⟨none, w.heap.size, 0, rfl, Nat.le_refl _, ⟨by simp, fun h => absurd h (by omega)⟩, hb⟩
theorem rp_good {L G l : List Int} {n m n' : Nat} {code : Int} {w w' : World} {e : Ending} (h : rpE L G n m = 0) (hr : rpR L G n m = (l, n', code)) (hp : RpPost Try.prog (ratedL L G n m) n 0 w e w') : RpPost Try.prog l n' code w e w' := by
  have e := hr.symm.trans (rpR_0 h)
  injection e with e1 e2
  injection e2 with e2 e3
  subst e1 e2 e3
  exact hp
theorem rpE_cases {L G : List Int} {n m : Nat} (h : rpE L G n m = 0) : okL L n = true ∧ okG G n m = true ∧ n ≤ 100 ∧ m ≤ 100 := by
  cases h1 : okL L n
  · rw [rpE_1 h1] at h; exact absurd h (by decide)
  · cases h2 : okG G n m
    · rw [rpE_2 h1 h2] at h; exact absurd h (by decide)
    · by_cases h3 : n ≤ 100 ∧ m ≤ 100
      · exact ⟨rfl, rfl, h3.1, h3.2⟩
      · rw [rpE_5 h1 h2 h3] at h; exact absurd h (by decide)
theorem rpE_range (L G : List Int) (n m : Nat) : 0 ≤ rpE L G n m ∧ rpE L G n m ≤ 5 := by
  unfold rpE
  split
  · split
    · split <;> omega
    · omega
  · omega
theorem ratedL_len (L G : List Int) (n m : Nat) : (ratedL L G n m).length = n * 2 := outL_len _ _ _ _
set_option maxHeartbeats 2000000 in
theorem RatePeriod_any (A1 A2 : Option Addr) (n c1 m c2 : Nat) (L G : List Int) (w : World) (hL : Sl w w.heap.size 2 A1 n (L.map (Value.int .i64))) (hG : Sl w w.heap.size 3 A2 m (G.map (Value.int .i64))) (hn : n ≤ 9223372036854775807) (hm : m ≤ 9223372036854775807) (l : List Int) (n' : Nat) (code : Int) (hr : rpR L G n m = (l, n', code)) :
    Calls Try.prog 23 #[.slice A1 n c1, .slice A2 m c2] w (RpPost Try.prog l n' code w) := by
  have HG := Lib.hid hG
  have HR := Lib.hid hr
  clear hG hr
  obtain ⟨q, hq⟩ : ∃ q, okL L n = q := ⟨_, rfl⟩
  have HOL := Lib.hid hq
  clear hq
  cases q
  case false =>
    go_enter Try.func23, Try.ntmps23
    go_wp2_with (go_at_call 58; (with_reducible refine Calls.mono (areRated_any A1 n c1 L _ hL hn) ?_); rw [HOL.out]; rintro e w1 ⟨rfl, hb1⟩)
    go_ret2
    exact rp_fin (rpR_ne (rpE_1 HOL.out) (by decide)) HR.out (by (repeat' (first | (with_reducible exact Below.refl _ _) | (with_reducible assumption) | (with_reducible refine Below.alloc ?_ ?_ _) | (with_reducible refine Below.drew ?_) | (with_reducible refine belowDrewN ?_ _) | (with_reducible refine Below.setCell ?_ ?_ _) | (with_reducible refine Below.via (by with_reducible assumption) ?_ ?_) | (with_reducible refine Below.viaD (by with_reducible assumption) ?_ ?_) | (with_reducible exact Below.size (by with_reducible assumption)) | go_size | (with_reducible refine Nat.le_trans ?_ (Below.size (by with_reducible assumption))) | (with_reducible refine Nat.le_trans ?_ (sizeAlloc _ _)) | (with_reducible refine Nat.le_trans ?_ (sizeSet _ _ _)) | (with_reducible refine Nat.le_trans ?_ (sizeDrew _)))))
  case true =>
    go_enter Try.func23, Try.ntmps23
    go_wp2_with (go_at_call 58; (with_reducible refine Calls.mono (areRated_any A1 n c1 L _ hL hn) ?_); rw [HOL.out]; rintro e w1 ⟨rfl, hb1⟩)
    have HBW := Lib.hid hb1
    clear hb1
    go_loopw [17] (fun i wr => ∃ k : Nat, k ≤ m ∧ i = .int .i64 k ∧ Hid (∀ i, i < k → gOk ((n : Int) - 1) (G.getD (i * 3) 0) (G.getD (i * 3 + 1) 0) (G.getD (i * 3 + 2) 0) = true) ∧ Below w.heap.size w wr) (fun i _ => m - (intOf i).toNat)
    case atStart => exact ⟨0, Nat.zero_le _, rfl, fun j hj => absurd hj (by omega), HBW.out⟩
    case round =>
      obtain ⟨k, hk, rfl, hpre, hbl⟩ := hrel
      have HBL := Lib.hid hbl
      have hbs := hbl.size
      by_cases hlt : k < m
      · obtain ⟨b, off, x, y, s, rfl, hb, HZ0, HZ1, HZ2, hc0, hc1, hc2⟩ := (HG.out.below hbl).trio hlt
        have HGE : Hid (gOk ((n : Int) - 1) x y s = (inB x 0 ((n : Int) - 1) && inB y 0 ((n : Int) - 1) && !(x == y) && inB s 0 2)) := rfl
        clear hbl
        obtain ⟨q1, e1⟩ : ∃ q, inB x 0 ((n : Int) - 1) = q := ⟨_, rfl⟩
        obtain ⟨q2, e2⟩ : ∃ q, inB y 0 ((n : Int) - 1) = q := ⟨_, rfl⟩
        obtain ⟨q4, e4⟩ : ∃ q, inB s 0 2 = q := ⟨_, rfl⟩
        rw [e1, e2, e4] at HGE
        have E1 := Lib.hid e1
        have E2 := Lib.hid e2
        have E4 := Lib.hid e4
        clear e1 e2 e4
        have hwn : IntKind.i64.wrap ((n : Int) - 1) = (n : Int) - 1 := IntWalk.i64_in _ (by omega)
        cases q3 : (x == y) <;> cases q1 <;> cases q2 <;> cases q4
        all_goals
          rw [q3] at HGE
          have hgv : Hid (okG G n m = false) ∨ Hid (gOk ((n : Int) - 1) x y s = true) := by
            first
            | exact Or.inr HGE.out
            | exact Or.inl (okG_no hlt HZ0.out HZ1.out HZ2.out HGE.out)
          clear HGE
          go_wp2_with (first | (go_at_call 42; (with_reducible refine Calls.mono (between_any x 0 ((n : Int) - 1) _) ?_); rw [E1.out]; rintro e w1 ⟨rfl, rfl⟩) | (go_at_call 42; (with_reducible refine Calls.mono (between_any y 0 ((n : Int) - 1) _) ?_); rw [E2.out]; rintro e w1 ⟨rfl, rfl⟩) | (go_at_call 42; (with_reducible refine Calls.mono (between_any s 0 2 _) ?_); rw [E4.out]; rintro e w1 ⟨rfl, rfl⟩))
          first
          | (go_ret2
             rcases hgv with hgv | hgv
             · exact rp_fin (rpR_ne (rpE_2 HOL.out hgv.out) (by decide)) HR.out (by have := HBL.out; (repeat' (first | (with_reducible exact Below.refl _ _) | (with_reducible assumption) | (with_reducible refine Below.alloc ?_ ?_ _) | (with_reducible refine Below.drew ?_) | (with_reducible refine belowDrewN ?_ _) | (with_reducible refine Below.setCell ?_ ?_ _) | (with_reducible refine Below.via (by with_reducible assumption) ?_ ?_) | (with_reducible refine Below.viaD (by with_reducible assumption) ?_ ?_) | (with_reducible exact Below.size (by with_reducible assumption)) | go_size | (with_reducible refine Nat.le_trans ?_ (Below.size (by with_reducible assumption))) | (with_reducible refine Nat.le_trans ?_ (sizeAlloc _ _)) | (with_reducible refine Nat.le_trans ?_ (sizeSet _ _ _)) | (with_reducible refine Nat.le_trans ?_ (sizeDrew _)))))
             · exfalso; have h9 := hgv.out; simp [gOk, E1.out, E2.out, E4.out, q3] at h9)
          | (go_roundw
             case rel =>
               refine ⟨k + 1, by omega, by go_num, fun j hj => ?_, by have := HBL.out; (repeat' (first | (with_reducible exact Below.refl _ _) | (with_reducible assumption) | (with_reducible refine Below.alloc ?_ ?_ _) | (with_reducible refine Below.drew ?_) | (with_reducible refine belowDrewN ?_ _) | (with_reducible refine Below.setCell ?_ ?_ _) | (with_reducible refine Below.via (by with_reducible assumption) ?_ ?_) | (with_reducible refine Below.viaD (by with_reducible assumption) ?_ ?_) | (with_reducible exact Below.size (by with_reducible assumption)) | go_size | (with_reducible refine Nat.le_trans ?_ (Below.size (by with_reducible assumption))) | (with_reducible refine Nat.le_trans ?_ (sizeAlloc _ _)) | (with_reducible refine Nat.le_trans ?_ (sizeSet _ _ _)) | (with_reducible refine Nat.le_trans ?_ (sizeDrew _))))⟩
               rcases Nat.lt_or_ge j k with h | h
               · exact hpre.out j h
               · obtain rfl : j = k := by omega
                 rw [HZ0.out, HZ1.out, HZ2.out]
                 simp [gOk, E1.out, E2.out, E4.out, q3]
             case measure => first | (simp [intOf]; done) | (simp [intOf]; omega))
      · obtain rfl : k = m := by omega
        have HOG := Lib.hid (okG_yes hpre.out)
        clear hbl
        by_cases hb1 : n ≤ 100
        · by_cases hb2 : k ≤ 100
          · have HGO := Lib.hid (GOk_of HOL.out HOG.out)
            go_wp2_with fail
            refine (rated_any _ A2 n c1 k c2 L G _ (hL.later HBL.out) (HG.out.later HBL.out) hb1 hb2 HGO.out).mono ?_
            rintro e w5 ⟨A', g, cap, rfl, hg, ho, hb5⟩
            go_wp2_with fail
            go_ret2
            exact rp_good (rpE_0 HOL.out HOG.out hb1 hb2) HR.out ⟨A', g, cap, rfl, Nat.le_trans HBL.out.size hg, ho, Below.via hb5 HBL.out HBL.out.size⟩
          · go_wp2
            go_ret2
            exact rp_fin (rpR_ne (rpE_5 HOL.out HOG.out (by omega)) (by decide)) HR.out HBL.out
        · go_wp2
          go_ret2
          exact rp_fin (rpR_ne (rpE_5 HOL.out HOG.out (by omega)) (by decide)) HR.out HBL.out
set_option maxHeartbeats 2000000 in
theorem sRatePeriod_any (A1 A2 : Option Addr) (n c1 m c2 : Nat) (L G : List Int) (w : World) (hL : Sl w w.heap.size 2 A1 n (L.map (Value.int .i64))) (hG : Sl w w.heap.size 3 A2 m (G.map (Value.int .i64))) (hn : n ≤ 9223372036854775807) (hm : m ≤ 9223372036854775807) (l : List Int) (n' : Nat) (code : Int) (hr : rpR L G n m = (l, n', code)) :
    Calls Try.prog 24 #[.slice A1 n c1, .slice A2 m c2] w (RpPost Try.prog l n' code w) := by
  by_cases h0 : rpE L G n m = 0
  case pos =>
    obtain ⟨k1, k2, k3, k4⟩ := rpE_cases h0
    exact (sRatePeriod_good A1 A2 n c1 m c2 L G w hL hG k3 k4 h0 (GOk_of k1 k2)).mono fun e w' hp => rp_good h0 hr hp
  case neg =>
    have HG := Lib.hid hG
    have HR := Lib.hid hr
    obtain ⟨r1, r2⟩ := rpE_range L G n m
    obtain ⟨r, hr2⟩ : ∃ r, rpE L G n m = r := ⟨_, rfl⟩
    have HE := Lib.hid hr2
    rw [hr2] at h0 r1 r2
    have hrn : (r != 0) = true := by simpa using h0
    clear hG hr hr2
    go_enter Try.func24, Try.ntmps24
    go_wp2_with (go_at_call 59; (with_reducible refine Calls.mono (l25Code_any A1 A2 n c1 m c2 L G _ hL HG.out hn hm) ?_); rw [HE.out]; rintro e w1 ⟨rfl, hb1⟩)
    go_ret2
    exact rp_fin (rpR_ne HE.out h0) HR.out (by (repeat' (first | (with_reducible exact Below.refl _ _) | (with_reducible assumption) | (with_reducible refine Below.alloc ?_ ?_ _) | (with_reducible refine Below.drew ?_) | (with_reducible refine belowDrewN ?_ _) | (with_reducible refine Below.setCell ?_ ?_ _) | (with_reducible refine Below.via (by with_reducible assumption) ?_ ?_) | (with_reducible refine Below.viaD (by with_reducible assumption) ?_ ?_) | (with_reducible exact Below.size (by with_reducible assumption)) | go_size | (with_reducible refine Nat.le_trans ?_ (Below.size (by with_reducible assumption))) | (with_reducible refine Nat.le_trans ?_ (sizeAlloc _ _)) | (with_reducible refine Nat.le_trans ?_ (sizeSet _ _ _)) | (with_reducible refine Nat.le_trans ?_ (sizeDrew _)))))
end Go.Proofs.Ytaeeijjejkohjaa
