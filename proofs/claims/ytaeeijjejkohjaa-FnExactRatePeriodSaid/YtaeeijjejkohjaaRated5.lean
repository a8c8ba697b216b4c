/- RatePeriod: the law. No conditions. -/
import Derived.Test.YtaeeijjejkohjaaRated4
import Derived.Test.YtaeeijjejkohjaaRatedS
import Derived.Test.YtaeeijjejkohjaaOutcomeS
namespace Go.Proofs.Ytaeeijjejkohjaa
set_option linter.unusedSimpArgs false
set_option linter.unusedVariables false
open Go.RowKit

theorem Blk.slI {w : World} {g : Nat} {t : TypeId} {zs : List Int} {n m : Nat} (h : Blk w g t (zs.map (Value.int .i64)).toArray) (hl : zs.length = n * m) : Own w g t m (some ⟨g, 0, none⟩) n zs := ⟨hl, fun _ => ⟨rfl, [], by simpa using h⟩⟩
theorem rpR_bd {L G l : List Int} {n m n' : Nat} {code : Int} (h : rpR L G n m = (l, n', code)) : n' ≤ 100 ∧ l.length = n' * 2 := by
  unfold rpR at h
  by_cases h0 : rpE L G n m = 0
  · rw [if_pos h0] at h
    injection h with e1 e2
    injection e2 with e2 e3
    subst e1 e2
    exact ⟨(rpE_cases h0).2.2.1, ratedL_len L G _ m⟩
  · rw [if_neg h0] at h
    injection h with e1 e2
    injection e2 with e2 e3
    subst e1 e2
    exact ⟨by omega, rfl⟩
set_option maxRecDepth 100000 in
set_option maxHeartbeats 4000000 in
theorem fnExactRatePeriod_walk (A1 : Option Addr) (n c1 : Nat) (L : List Int) (A2 : Option Addr) (m c2 : Nat) (G : List Int) (w : World) (hL : Sl w w.heap.size 2 A1 n (L.map (Value.int .i64))) (hn : n ≤ 9223372036854775807) (hG : Sl w w.heap.size 3 A2 m (G.map (Value.int .i64))) (hm : m ≤ 9223372036854775807) : Calls Try.prog 6 #[.slice A1 n c1, .slice A2 m c2] w fun e w' => e = .returned (.bool true) ∧ Below w.heap.size w w' := by
  have LL : Hid (L.length = n * 2) := by unfold Hid; have := hL.1; simpa using this
  have LG : Hid (G.length = m * 3) := by unfold Hid; have := hG.1; simpa using this
  have HL := Lib.hid hL
  have HG := Lib.hid hG
  have HL0 := Lib.hid hL
  have HG0 := Lib.hid hG
  clear hL hG
  obtain ⟨l, n', code, hr⟩ : ∃ l n' code, rpR L G n m = (l, n', code) := ⟨_, _, _, rfl⟩
  obtain ⟨hn', hl'⟩ := rpR_bd hr
  have HR := Lib.hid hr
  have HLL := Lib.hid hl'
  clear hr hl'
  have hcn : (code != code) = false := by simp
  by_cases hb1 : (n : Int) ≤ 1048576
  case neg =>
    go_enter Try.func6, Try.ntmps6
    go_wp2_with (go_at_call 29; refine (szRatedS_gt A1 n c1 1048576 _ (by omega) (by omega) hn).mono ?_; rintro e w_ ⟨rfl, rfl⟩)
    go_ret
    exact ⟨rfl, by (repeat' (first | (with_reducible exact Below.refl _ _) | (with_reducible assumption) | (with_reducible refine Below.alloc ?_ ?_ _) | (with_reducible refine Below.drew ?_) | (with_reducible refine belowDrewN ?_ _) | (with_reducible refine Below.setCell ?_ ?_ _) | (with_reducible refine Below.via (by with_reducible assumption) ?_ ?_) | (with_reducible refine Below.viaD (by with_reducible assumption) ?_ ?_) | (with_reducible exact Below.size (by with_reducible assumption)) | go_size | (with_reducible refine Nat.le_trans ?_ (Below.size (by with_reducible assumption))) | (with_reducible refine Nat.le_trans ?_ (sizeAlloc _ _)) | (with_reducible refine Nat.le_trans ?_ (sizeSet _ _ _)) | (with_reducible refine Nat.le_trans ?_ (sizeDrew _))))⟩
  case pos =>
  by_cases hb2 : (m : Int) ≤ 1048576 - n
  case neg =>
    go_enter Try.func6, Try.ntmps6
    go_wp2_with (first | (go_at_call 29; refine (szRatedS_le A1 n c1 1048576 _ (by omega) (by omega)).mono ?_; rintro e w_ ⟨rfl, rfl⟩) | (go_at_call 30; refine (szOutcomeS_gt A2 m c2 (1048576 - (n : Int)) _ (by omega) (by omega) hm).mono ?_; rintro e w_ ⟨rfl, rfl⟩))
    go_ret
    exact ⟨rfl, by (repeat' (first | (with_reducible exact Below.refl _ _) | (with_reducible assumption) | (with_reducible refine Below.alloc ?_ ?_ _) | (with_reducible refine Below.drew ?_) | (with_reducible refine belowDrewN ?_ _) | (with_reducible refine Below.setCell ?_ ?_ _) | (with_reducible refine Below.via (by with_reducible assumption) ?_ ?_) | (with_reducible refine Below.viaD (by with_reducible assumption) ?_ ?_) | (with_reducible exact Below.size (by with_reducible assumption)) | go_size | (with_reducible refine Nat.le_trans ?_ (Below.size (by with_reducible assumption))) | (with_reducible refine Nat.le_trans ?_ (sizeAlloc _ _)) | (with_reducible refine Nat.le_trans ?_ (sizeSet _ _ _)) | (with_reducible refine Nat.le_trans ?_ (sizeDrew _))))⟩
  case pos =>
    have hn2 : n ≤ 1048576 := by omega
    have hm2 : m ≤ 1048576 := by omega
    go_enter Try.func6, Try.ntmps6
    go_wp2_with (first | (go_at_call 29; refine (szRatedS_le A1 n c1 1048576 _ (by omega) (by omega)).mono ?_; rintro e w_ ⟨rfl, rfl⟩) | (go_at_call 30; refine (szOutcomeS_le A2 m c2 (1048576 - (n : Int)) _ (by omega) (by omega)).mono ?_; rintro e w_ ⟨rfl, rfl⟩))
    have B0 := Lib.hid (Below.refl w.heap.size w)
    refine (toRatedS_any A1 n c1 L _ HL.out hn2).mono ?_
    rintro e w1 ⟨rfl, k_, b_⟩
    replace HL := Lib.hid (HL.out.later b_)
    replace HG := Lib.hid (HG.out.later b_)
    replace B0 := Lib.hid (Below.via b_ B0.out B0.out.size)
    have TR := Lib.hid (k_.slI LL.out)
    have gTR := k_.lt
    clear k_ b_
    go_wp2_with fail
    refine (toOutcomeS_any A2 m c2 G _ HG.out hm2).mono ?_
    rintro e w2 ⟨rfl, k_, b_⟩
    replace HL := Lib.hid (HL.out.later b_)
    replace HG := Lib.hid (HG.out.later b_)
    replace TR := Lib.hid (TR.out.later b_)
    replace B0 := Lib.hid (Below.via b_ B0.out B0.out.size)
    have TO := Lib.hid (k_.slI LG.out)
    have gTO := k_.lt
    clear k_ b_
    go_wp2_with fail
    refine (sRatePeriod_any _ _ n n m m L G _ TR.out.sl TO.out.sl hn hm l n' code HR.out).mono ?_
    rintro e w3 ⟨A0, g0, q0, rfl, hg0, o_, b_⟩
    replace HL := Lib.hid (HL.out.later b_)
    replace HG := Lib.hid (HG.out.later b_)
    replace TR := Lib.hid (TR.out.later b_)
    replace TO := Lib.hid (TO.out.later b_)
    replace B0 := Lib.hid (Below.via b_ B0.out B0.out.size)
    have lt0 := o_.lt
    have zb3 := B0.out.size
    have S0 := Lib.hid o_
    clear o_ b_ TR TO gTR gTO
    go_wp2_with fail
    refine (toRatedS_any A1 n c1 L _ HL.out hn2).mono ?_
    rintro e w4 ⟨rfl, k_, b_⟩
    replace HL := Lib.hid (HL.out.later b_)
    replace HG := Lib.hid (HG.out.later b_)
    replace S0 := Lib.hid (S0.out.later b_)
    replace B0 := Lib.hid (Below.via b_ B0.out B0.out.size)
    have XR := Lib.hid (k_.slI LL.out)
    have gXR := k_.lt
    clear k_ b_
    go_wp2_with fail
    refine (toOutcomeS_any A2 m c2 G _ HG.out hm2).mono ?_
    rintro e w5 ⟨rfl, k_, b_⟩
    replace HL := Lib.hid (HL.out.later b_)
    replace HG := Lib.hid (HG.out.later b_)
    replace S0 := Lib.hid (S0.out.later b_)
    replace XR := Lib.hid (XR.out.later b_)
    replace B0 := Lib.hid (Below.via b_ B0.out B0.out.size)
    have XO := Lib.hid (k_.slI LG.out)
    have gXO := k_.lt
    clear k_ b_
    go_wp2_with fail
    refine (RatePeriod_any _ _ n n m m L G _ XR.out.sl XO.out.sl hn hm l n' code HR.out).mono ?_
    rintro e w6 ⟨A3, g3, q3, rfl, hg3, o_, b_⟩
    replace HL := Lib.hid (HL.out.later b_)
    replace HG := Lib.hid (HG.out.later b_)
    replace S0 := Lib.hid (S0.out.later b_)
    replace XR := Lib.hid (XR.out.later b_)
    replace XO := Lib.hid (XO.out.later b_)
    replace B0 := Lib.hid (Below.via b_ B0.out B0.out.size)
    have hz6 := b_.size
    have S1 := Lib.hid o_
    clear o_ b_
    go_wp2_with fail
    refine (eqRatedS_any A3 A0 n' n' q3 q0 l l _ S1.out.sl S0.out.sl (by omega) (by omega)).mono ?_
    rw [eqL_self]
    rintro e w7 ⟨rfl, b_⟩
    replace HL := Lib.hid (HL.out.later b_)
    replace HG := Lib.hid (HG.out.later b_)
    replace S0 := Lib.hid (S0.out.later b_)
    replace XR := Lib.hid (XR.out.later b_)
    replace XO := Lib.hid (XO.out.later b_)
    replace S1 := Lib.hid (S1.out.later b_)
    replace B0 := Lib.hid (Below.via b_ B0.out B0.out.size)
    clear b_
    go_wp2_with fail
    refine (toRatedS_any A1 n c1 L _ HL.out hn2).mono ?_
    rintro e w8 ⟨rfl, k_, b_⟩
    replace HL := Lib.hid (HL.out.later b_)
    replace HG := Lib.hid (HG.out.later b_)
    replace S0 := Lib.hid (S0.out.later b_)
    replace XR := Lib.hid (XR.out.later b_)
    replace XO := Lib.hid (XO.out.later b_)
    replace S1 := Lib.hid (S1.out.later b_)
    replace B0 := Lib.hid (Below.via b_ B0.out B0.out.size)
    have ZR := Lib.hid (k_.slI LL.out)
    have gZR := k_.lt
    clear k_ b_
    go_wp2_with fail
    refine (eqRatedS_any _ _ n n n n L L _ XR.out.sl ZR.out.sl (by omega) (by omega)).mono ?_
    rw [eqL_self]
    rintro e w9 ⟨rfl, b_⟩
    replace HL := Lib.hid (HL.out.later b_)
    replace HG := Lib.hid (HG.out.later b_)
    replace S0 := Lib.hid (S0.out.later b_)
    replace XR := Lib.hid (XR.out.later b_)
    replace XO := Lib.hid (XO.out.later b_)
    replace S1 := Lib.hid (S1.out.later b_)
    replace ZR := Lib.hid (ZR.out.later b_)
    replace B0 := Lib.hid (Below.via b_ B0.out B0.out.size)
    clear b_
    go_wp2_with fail
    clear ZR gZR
    refine (toOutcomeS_any A2 m c2 G _ HG.out hm2).mono ?_
    rintro e w10 ⟨rfl, k_, b_⟩
    replace HL := Lib.hid (HL.out.later b_)
    replace HG := Lib.hid (HG.out.later b_)
    replace S0 := Lib.hid (S0.out.later b_)
    replace XR := Lib.hid (XR.out.later b_)
    replace XO := Lib.hid (XO.out.later b_)
    replace S1 := Lib.hid (S1.out.later b_)
    replace B0 := Lib.hid (Below.via b_ B0.out B0.out.size)
    have ZO := Lib.hid (k_.slI LG.out)
    have gZO := k_.lt
    clear k_ b_
    go_wp2_with fail
    refine (eqOutcomeS_any _ _ m m m m G G _ XO.out.sl ZO.out.sl (by omega) (by omega)).mono ?_
    rw [eqL_self]
    rintro e w11 ⟨rfl, b_⟩
    replace HL := Lib.hid (HL.out.later b_)
    replace HG := Lib.hid (HG.out.later b_)
    replace S0 := Lib.hid (S0.out.later b_)
    replace XR := Lib.hid (XR.out.later b_)
    replace XO := Lib.hid (XO.out.later b_)
    replace S1 := Lib.hid (S1.out.later b_)
    replace ZO := Lib.hid (ZO.out.later b_)
    replace B0 := Lib.hid (Below.via b_ B0.out B0.out.size)
    clear b_
    go_wp2_with fail
    clear ZO gZO
    clear HL HG
    refine (markRatedS_any _ n n _ L 1 _ XR.out (by omega) (by omega) (by omega)).mono ?_
    rintro e w12 ⟨rfl, o_, gr_⟩
    replace S0 := Lib.hid (S0.out.apart gr_ (fun h_ => by first | omega | (have := lt0 h_; omega)))
    replace XR := Lib.hid o_
    replace XO := Lib.hid (XO.out.apart gr_ (fun h_ => by first | omega | (have := lt0 h_; omega)))
    replace S1 := Lib.hid (S1.out.apart gr_ (fun h_ => by first | omega | (have := lt0 h_; omega)))
    replace B0 := Lib.hid (grown_below B0.out gr_ (by omega) B0.out.size)
    have z12 := gr_.size
    clear o_ gr_
    go_wp2_with fail
    refine (markOutcomeS_any _ m m _ G (1 + (n * 2 : Nat)) _ XO.out (by omega) (by omega) (by omega)).mono ?_
    rintro e w13 ⟨rfl, o_, gr_⟩
    replace S0 := Lib.hid (S0.out.apart gr_ (fun h_ => by first | omega | (have := lt0 h_; omega)))
    replace XR := Lib.hid (XR.out.apart gr_ (fun h_ => by first | omega | (have := lt0 h_; omega)))
    replace XO := Lib.hid o_
    replace S1 := Lib.hid (S1.out.apart gr_ (fun h_ => by first | omega | (have := lt0 h_; omega)))
    replace B0 := Lib.hid (grown_below B0.out gr_ (by omega) B0.out.size)
    have z13 := gr_.size
    clear o_ gr_
    go_wp2_with fail
    refine (eqRatedS_any A3 A0 n' n' q3 q0 l l _ S1.out.sl S0.out.sl (by omega) (by omega)).mono ?_
    rw [eqL_self]
    rintro e w14 ⟨rfl, b_⟩
    replace S0 := Lib.hid (S0.out.later b_)
    replace XR := Lib.hid (XR.out.later b_)
    replace XO := Lib.hid (XO.out.later b_)
    replace S1 := Lib.hid (S1.out.later b_)
    replace B0 := Lib.hid (Below.via b_ B0.out B0.out.size)
    clear b_
    go_wp2_with fail
    refine (markRatedS_any _ n' q3 _ l 1 _ S1.out (by omega) (by omega) (by omega)).mono ?_
    rintro e w15 ⟨rfl, o_, gr_⟩
    replace S0 := Lib.hid (S0.out.apart gr_ (fun h_ => by first | omega | (have := lt0 h_; omega)))
    replace XR := Lib.hid (XR.out.apart gr_ (fun h_ => by first | omega | (have := lt0 h_; omega)))
    replace XO := Lib.hid (XO.out.apart gr_ (fun h_ => by first | omega | (have := lt0 h_; omega)))
    replace S1 := Lib.hid o_
    replace B0 := Lib.hid (grown_below B0.out gr_ (by omega) B0.out.size)
    have z15 := gr_.size
    clear o_ gr_
    go_wp2_with fail
    refine (heldRatedS_any A3 n' q3 1 _ S1.out.sl (by omega) (by omega) (by omega)).mono ?_
    rintro e w_ ⟨rfl, rfl⟩
    go_wp2_with fail
    have HL := Lib.hid (HL0.out.later B0.out)
    have HG := Lib.hid (HG0.out.later B0.out)
    refine (toRatedS_any A1 n c1 L _ HL.out hn2).mono ?_
    rintro e w16 ⟨rfl, k_, b_⟩
    replace S0 := Lib.hid (S0.out.later b_)
    replace XR := Lib.hid (XR.out.later b_)
    replace XO := Lib.hid (XO.out.later b_)
    replace S1 := Lib.hid (S1.out.later b_)
    replace HL := Lib.hid (HL.out.later b_)
    replace HG := Lib.hid (HG.out.later b_)
    replace B0 := Lib.hid (Below.via b_ B0.out B0.out.size)
    have YR := Lib.hid (k_.slI LL.out)
    have gYR := k_.lt
    clear k_ b_
    go_wp2_with fail
    refine (toOutcomeS_any A2 m c2 G _ HG.out hm2).mono ?_
    rintro e w17 ⟨rfl, k_, b_⟩
    replace S0 := Lib.hid (S0.out.later b_)
    replace XR := Lib.hid (XR.out.later b_)
    replace XO := Lib.hid (XO.out.later b_)
    replace S1 := Lib.hid (S1.out.later b_)
    replace HL := Lib.hid (HL.out.later b_)
    replace HG := Lib.hid (HG.out.later b_)
    replace YR := Lib.hid (YR.out.later b_)
    replace B0 := Lib.hid (Below.via b_ B0.out B0.out.size)
    have YO := Lib.hid (k_.slI LG.out)
    have gYO := k_.lt
    clear k_ b_
    go_wp2_with fail
    refine (RatePeriod_any _ _ n n m m L G _ YR.out.sl YO.out.sl hn hm l n' code HR.out).mono ?_
    rintro e w18 ⟨A4, g4, q4, rfl, hg4, o_, b_⟩
    replace S0 := Lib.hid (S0.out.later b_)
    replace XR := Lib.hid (XR.out.later b_)
    replace XO := Lib.hid (XO.out.later b_)
    replace S1 := Lib.hid (S1.out.later b_)
    replace HL := Lib.hid (HL.out.later b_)
    replace HG := Lib.hid (HG.out.later b_)
    replace YR := Lib.hid (YR.out.later b_)
    replace YO := Lib.hid (YO.out.later b_)
    replace B0 := Lib.hid (Below.via b_ B0.out B0.out.size)
    have S2 := Lib.hid o_
    clear o_ b_
    go_wp2_with fail
    refine (eqRatedS_any A4 A0 n' n' q4 q0 l l _ S2.out.sl S0.out.sl (by omega) (by omega)).mono ?_
    rw [eqL_self]
    rintro e w19 ⟨rfl, b_⟩
    replace S0 := Lib.hid (S0.out.later b_)
    replace XR := Lib.hid (XR.out.later b_)
    replace XO := Lib.hid (XO.out.later b_)
    replace S1 := Lib.hid (S1.out.later b_)
    replace HL := Lib.hid (HL.out.later b_)
    replace HG := Lib.hid (HG.out.later b_)
    replace YR := Lib.hid (YR.out.later b_)
    replace YO := Lib.hid (YO.out.later b_)
    replace S2 := Lib.hid (S2.out.later b_)
    replace B0 := Lib.hid (Below.via b_ B0.out B0.out.size)
    clear b_
    go_wp2_with fail
    refine (heldRatedS_any A3 n' q3 1 _ S1.out.sl (by omega) (by omega) (by omega)).mono ?_
    rintro e w_ ⟨rfl, rfl⟩
    go_wp2_with fail
    go_ret
    exact ⟨rfl, B0.out⟩
end Go.Proofs.Ytaeeijjejkohjaa
