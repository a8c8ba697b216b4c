/- LeftAt: both functions, and the law. No conditions beyond lengths. -/
import Derived.Test.YtbnccmdbplmmkaaClock3
import Derived.RegionTactic
import Derived.BigRegion
namespace Go.Proofs.Ytbnccmdbplmmkaa
set_option linter.unusedSimpArgs false
set_option linter.unusedVariables false
open Go.RowKit

theorem below_boxed {w w' : World} {o : Obj} (h : Below (w.alloc o).heap.size (w.alloc o) w') : Below w.heap.size w w' := (Below.alloc (Below.refl _ _) (Nat.le_refl _) _).trans (h.mono (sizeAlloc _ _))
theorem ret2_int {k k2 : IntKind} {a b c d : Int} (h : a = b) (h2 : c = d) : Ending.returned (.tuple #[.int k a, .int k2 c]) = .returned (.tuple #[.int k b, .int k2 d]) := by rw [h, h2]
def useV (z t : Int) : Int := max 0 (z - max 0 t)
def tkV (z t : Int) : Int := min (max t 0) z
theorem ret_int {k : IntKind} {a b : Int} (h : a = b) : Ending.returned (.int k a) = .returned (.int k b) := by rw [h]
theorem tkV_bd {z t : Int} (h : 0 ≤ z) : 0 ≤ tkV z t ∧ tkV z t ≤ z := by unfold tkV; omega
theorem tkV_use {z t : Int} (h : 0 ≤ z) : z - tkV z t = useV z t := by unfold tkV useV; omega
set_option maxHeartbeats 1000000 in
theorem l23Left_any (A : Option Addr) (c : Nat) (z0 z1 inc del pl si : Int) (ru fa : Bool) (b0 : Nat) (now : Int) (w : World) (hs : Sl w w.heap.size 1 A 2 ([z0, z1].map (Value.int .i64))) (p0 : w.cell? ⟨b0, 0, none⟩ = some (.slice A 2 c)) (p1 : w.cell? ⟨b0, 1, none⟩ = some (.int .i64 inc)) (p2 : w.cell? ⟨b0, 2, none⟩ = some (.int .i64 del)) (p3 : w.cell? ⟨b0, 3, none⟩ = some (.int .i64 pl)) (p4 : w.cell? ⟨b0, 4, none⟩ = some (.int .i64 si)) (p5 : w.cell? ⟨b0, 5, none⟩ = some (.bool ru)) (p6 : w.cell? ⟨b0, 6, none⟩ = some (.bool fa))
    (hpl : pl = 0 ∨ pl = 1) (d1 : 0 ≤ del) (d2 : del ≤ 36000000) (s1 : 0 ≤ si) (s2 : si ≤ 36000000) (n1 : 0 ≤ now) (n2 : now ≤ 36000000) (a0 : 0 ≤ z0) (a0' : z0 ≤ 36000000) (a1 : 0 ≤ z1) (a1' : z1 ≤ 36000000) :
    Calls Try.prog 36 #[.pointer (some ⟨b0, 0, none⟩), .int .i64 now] w fun e w' => e = .returned (.int .i64 (useV (atP [z0, z1] pl) (now - si - del))) ∧ Below w.heap.size w w' := by
  obtain ⟨b, off, rfl, hb, hc⟩ := hs.2 (by omega)
  have hc0 := hc 0 _ rfl
  have hc1 := hc 1 _ rfl
  rw [Nat.add_zero] at hc0
  clear hc hs
  have mx1 : 0 ≤ max 0 (now - si - del) := Int.le_max_left _ _
  have mx2 : max 0 (now - si - del) ≤ 36000000 := Int.max_le.2 ⟨by omega, by omega⟩
  rcases hpl with rfl | rfl
  all_goals
    go_enter Try.func36, Try.ntmps36
    go_wp2_with fail
    go_quiet ((go_at_call 39; exact quiet_left (l00Max_any _ _ _)))
    go_wp2_with fail
    go_ret
    exact ⟨rfl, by (repeat' (first | (with_reducible exact Below.refl _ _) | (with_reducible assumption) | (with_reducible refine Below.alloc ?_ ?_ _) | (with_reducible refine Below.drew ?_) | (with_reducible refine belowDrewN ?_ _) | (with_reducible refine Below.setCell ?_ ?_ _) | (with_reducible refine Below.via (by with_reducible assumption) ?_ ?_) | (with_reducible exact Below.size (by with_reducible assumption)) | go_size | (with_reducible refine Nat.le_trans ?_ (Below.size (by with_reducible assumption))) | (with_reducible refine Nat.le_trans ?_ (sizeAlloc _ _)) | (with_reducible refine Nat.le_trans ?_ (sizeSet _ _ _)) | (with_reducible refine Nat.le_trans ?_ (sizeDrew _))))⟩
set_option maxHeartbeats 1000000 in
theorem taken_any (A : Option Addr) (c : Nat) (z0 z1 inc del pl si : Int) (fa : Bool) (now : Int) (w : World) (hs : Sl w w.heap.size 1 A 2 ([z0, z1].map (Value.int .i64)))
    (hpl : pl = 0 ∨ pl = 1) (d1 : 0 ≤ del) (d2 : del ≤ 36000000) (s1 : 0 ≤ si) (s2 : si ≤ 36000000) (n1 : 0 ≤ now) (n2 : now ≤ 36000000) (a0 : 0 ≤ z0) (a1 : 0 ≤ z1) :
    Calls Try.prog 38 #[.agg #[.slice A 2 c, .int .i64 inc, .int .i64 del, .int .i64 pl, .int .i64 si, .bool true, .bool fa], .int .i64 now] w fun e w' => e = .returned (.int .i64 (tkV (atP [z0, z1] pl) (now - si - del))) ∧ Below w.heap.size w w' := by
  obtain ⟨b, off, rfl, hb, hc⟩ := hs.2 (by omega)
  have hc0 := hc 0 _ rfl
  have hc1 := hc 1 _ rfl
  rw [Nat.add_zero] at hc0
  clear hc hs
  rcases hpl with rfl | rfl
  all_goals
    go_enter Try.func38, Try.ntmps38
    go_wp2_with fail
    go_quiet (fail)
    go_wp2_with fail
    all_goals
      go_ret
      refine ⟨ret_int (b := tkV _ _) ?_, by (repeat' (first | (with_reducible exact Below.refl _ _) | (with_reducible assumption) | (with_reducible refine Below.alloc ?_ ?_ _) | (with_reducible refine Below.drew ?_) | (with_reducible refine belowDrewN ?_ _) | (with_reducible refine Below.setCell ?_ ?_ _) | (with_reducible refine Below.via (by with_reducible assumption) ?_ ?_) | (with_reducible exact Below.size (by with_reducible assumption)) | go_size | (with_reducible refine Nat.le_trans ?_ (Below.size (by with_reducible assumption))) | (with_reducible refine Nat.le_trans ?_ (sizeAlloc _ _)) | (with_reducible refine Nat.le_trans ?_ (sizeSet _ _ _)) | (with_reducible refine Nat.le_trans ?_ (sizeDrew _))))⟩
      simp only [tkV]
      first | (show _ = min (max (now - si - del) 0) z0; omega) | (show _ = min (max (now - si - del) 0) z1; omega)
theorem taken_still (A : Option Addr) (n c : Nat) (inc del pl si : Int) (fa : Bool) (now : Int) (w : World) :
    Calls Try.prog 38 #[.agg #[.slice A n c, .int .i64 inc, .int .i64 del, .int .i64 pl, .int .i64 si, .bool false, .bool fa], .int .i64 now] w fun e w' => e = .returned (.int .i64 0) ∧ Below w.heap.size w w' := by
  go_enter Try.func38, Try.ntmps38
  go_wp2
  go_ret
  exact ⟨rfl, by (repeat' (first | (with_reducible exact Below.refl _ _) | (with_reducible assumption) | (with_reducible refine Below.alloc ?_ ?_ _) | (with_reducible refine Below.drew ?_) | (with_reducible refine belowDrewN ?_ _) | (with_reducible refine Below.setCell ?_ ?_ _) | (with_reducible refine Below.via (by with_reducible assumption) ?_ ?_) | (with_reducible exact Below.size (by with_reducible assumption)) | go_size | (with_reducible refine Nat.le_trans ?_ (Below.size (by with_reducible assumption))) | (with_reducible refine Nat.le_trans ?_ (sizeAlloc _ _)) | (with_reducible refine Nat.le_trans ?_ (sizeSet _ _ _)) | (with_reducible refine Nat.le_trans ?_ (sizeDrew _))))⟩
theorem isNow_any (A : Option Addr) (n c : Nat) (inc del pl si : Int) (ru fa : Bool) (now : Int) (w : World) :
    Calls Try.prog 37 #[.agg #[.slice A n c, .int .i64 inc, .int .i64 del, .int .i64 pl, .int .i64 si, .bool ru, .bool fa], .int .i64 now] w fun e w' => e = .returned (.bool (inB now si 36000000)) ∧ Below w.heap.size w w' := by
  go_enter Try.func37, Try.ntmps37
  go_wp2_with (go_at_call 25; refine (between_any _ _ _ _).mono ?_; rintro e w_ ⟨rfl, rfl⟩)
  go_ret
  exact ⟨rfl, by (repeat' (first | (with_reducible exact Below.refl _ _) | (with_reducible assumption) | (with_reducible refine Below.alloc ?_ ?_ _) | (with_reducible refine Below.drew ?_) | (with_reducible refine belowDrewN ?_ _) | (with_reducible refine Below.setCell ?_ ?_ _) | (with_reducible refine Below.via (by with_reducible assumption) ?_ ?_) | (with_reducible exact Below.size (by with_reducible assumption)) | go_size | (with_reducible refine Nat.le_trans ?_ (Below.size (by with_reducible assumption))) | (with_reducible refine Nat.le_trans ?_ (sizeAlloc _ _)) | (with_reducible refine Nat.le_trans ?_ (sizeSet _ _ _)) | (with_reducible refine Nat.le_trans ?_ (sizeDrew _))))⟩
def laV (zs : List Int) (del pl si : Int) (ru : Bool) (p now : Int) : Int := if ru && p == pl then useV (atP zs pl) (now - si - del) else atP zs p
def laC (zs : List Int) (inc del pl si : Int) (ru fa : Bool) (p now : Int) : Int := if vC zs inc del pl si ru fa && inB p 0 1 && inB now si 36000000 then laV zs del pl si ru p now else 0
def laE (zs : List Int) (inc del pl si : Int) (ru fa : Bool) (p now : Int) : Int := if vC zs inc del pl si ru fa then (if inB p 0 1 && inB now si 36000000 then 0 else 2) else 1
set_option maxHeartbeats 4000000 in
theorem sLeftAt_any (A : Option Addr) (n c : Nat) (zs : List Int) (inc del pl si : Int) (ru fa : Bool) (p now : Int) (w : World) (hs : Sl w w.heap.size 1 A n (zs.map (Value.int .i64))) (hn : n ≤ 9223372036854775807) : Calls Try.prog 21 #[.agg #[.slice A n c, .int .i64 inc, .int .i64 del, .int .i64 pl, .int .i64 si, .bool ru, .bool fa], .int .i64 p, .int .i64 now] w fun e w' => e = .returned (.tuple #[.int .i64 (laC zs inc del pl si ru fa p now), .int .i64 (laE zs inc del pl si ru fa p now)]) ∧ Below w.heap.size w w' := by
  cases hv : vC zs inc del pl si ru fa
  case false =>
    have H1 : Hid (laC zs inc del pl si ru fa p now = 0) := by unfold Hid; rw [laC, hv]; rfl
    have H2 : Hid (laE zs inc del pl si ru fa p now = 1) := by unfold Hid; rw [laE, hv]; rfl
    go_enter Try.func21, Try.ntmps21
    go_wp2_with fail
    refine (l23Ok_any _ _ _ _ _ _ _ _ _ _ w.heap.size _ (hs.later (Below.alloc (Below.refl _ _) (Nat.le_refl _) _)) (by simp; rfl) (by simp; rfl) (by simp; rfl) (by simp; rfl) (by simp; rfl) (by simp; rfl) (by simp; rfl) hn).mono ?_
    rintro e w1 ⟨rfl, hb1⟩
    obtain ⟨hc1, hf1, hl1, hz1⟩ := bfacts hb1
    go_wp2_with (first | (go_at_call 23; refine (l00In_any _ _ _ _).mono ?_; rintro e w_ ⟨rfl, rfl⟩))
    go_ret2
    exact ⟨by rw [H1.out, H2.out]; rfl, by (repeat' (first | (with_reducible exact Below.refl _ _) | (with_reducible assumption) | (with_reducible refine Below.alloc ?_ ?_ _) | (with_reducible refine Below.drew ?_) | (with_reducible refine belowDrewN ?_ _) | (with_reducible refine Below.setCell ?_ ?_ _) | (with_reducible refine Below.via (by with_reducible assumption) ?_ ?_) | (with_reducible exact Below.size (by with_reducible assumption)) | go_size | (with_reducible refine Nat.le_trans ?_ (Below.size (by with_reducible assumption))) | (with_reducible refine Nat.le_trans ?_ (sizeAlloc _ _)) | (with_reducible refine Nat.le_trans ?_ (sizeSet _ _ _)) | (with_reducible refine Nat.le_trans ?_ (sizeDrew _))))⟩
  case true =>
    cases hp : inB p 0 1
    case false =>
      have H1 : Hid (laC zs inc del pl si ru fa p now = 0) := by unfold Hid; rw [laC, hv, hp]; rfl
      have H2 : Hid (laE zs inc del pl si ru fa p now = 2) := by unfold Hid; rw [laE, hv, hp]; rfl
      go_enter Try.func21, Try.ntmps21
      go_wp2_with fail
      refine (l23Ok_any _ _ _ _ _ _ _ _ _ _ w.heap.size _ (hs.later (Below.alloc (Below.refl _ _) (Nat.le_refl _) _)) (by simp; rfl) (by simp; rfl) (by simp; rfl) (by simp; rfl) (by simp; rfl) (by simp; rfl) (by simp; rfl) hn).mono ?_
      rintro e w1 ⟨rfl, hb1⟩
      obtain ⟨hc1, hf1, hl1, hz1⟩ := bfacts hb1
      go_wp2_with (first | (go_at_call 23; refine (l00In_any _ _ _ _).mono ?_; rintro e w_ ⟨rfl, rfl⟩))
      go_ret2
      exact ⟨by rw [H1.out, H2.out]; rfl, by (repeat' (first | (with_reducible exact Below.refl _ _) | (with_reducible assumption) | (with_reducible refine Below.alloc ?_ ?_ _) | (with_reducible refine Below.drew ?_) | (with_reducible refine belowDrewN ?_ _) | (with_reducible refine Below.setCell ?_ ?_ _) | (with_reducible refine Below.via (by with_reducible assumption) ?_ ?_) | (with_reducible exact Below.size (by with_reducible assumption)) | go_size | (with_reducible refine Nat.le_trans ?_ (Below.size (by with_reducible assumption))) | (with_reducible refine Nat.le_trans ?_ (sizeAlloc _ _)) | (with_reducible refine Nat.le_trans ?_ (sizeSet _ _ _)) | (with_reducible refine Nat.le_trans ?_ (sizeDrew _))))⟩
    case true =>
      cases hw : inB now si 36000000
      case false =>
        have H1 : Hid (laC zs inc del pl si ru fa p now = 0) := by unfold Hid; rw [laC, hv, hp, hw]; rfl
        have H2 : Hid (laE zs inc del pl si ru fa p now = 2) := by unfold Hid; rw [laE, hv, hp, hw]; rfl
        go_enter Try.func21, Try.ntmps21
        go_wp2_with fail
        refine (l23Ok_any _ _ _ _ _ _ _ _ _ _ w.heap.size _ (hs.later (Below.alloc (Below.refl _ _) (Nat.le_refl _) _)) (by simp; rfl) (by simp; rfl) (by simp; rfl) (by simp; rfl) (by simp; rfl) (by simp; rfl) (by simp; rfl) hn).mono ?_
        rintro e w1 ⟨rfl, hb1⟩
        obtain ⟨hc1, hf1, hl1, hz1⟩ := bfacts hb1
        go_wp2_with (first | (go_at_call 23; refine (l00In_any _ _ _ _).mono ?_; rintro e w_ ⟨rfl, rfl⟩))
        go_ret2
        exact ⟨by rw [H1.out, H2.out]; rfl, by (repeat' (first | (with_reducible exact Below.refl _ _) | (with_reducible assumption) | (with_reducible refine Below.alloc ?_ ?_ _) | (with_reducible refine Below.drew ?_) | (with_reducible refine belowDrewN ?_ _) | (with_reducible refine Below.setCell ?_ ?_ _) | (with_reducible refine Below.via (by with_reducible assumption) ?_ ?_) | (with_reducible exact Below.size (by with_reducible assumption)) | go_size | (with_reducible refine Nat.le_trans ?_ (Below.size (by with_reducible assumption))) | (with_reducible refine Nat.le_trans ?_ (sizeAlloc _ _)) | (with_reducible refine Nat.le_trans ?_ (sizeSet _ _ _)) | (with_reducible refine Nat.le_trans ?_ (sizeDrew _))))⟩
      case true =>
        have H2 : Hid (laE zs inc del pl si ru fa p now = 0) := by unfold Hid; rw [laE, hv, hp, hw]; rfl
        have H1 : Hid (laC zs inc del pl si ru fa p now = laV zs del pl si ru p now) := by unfold Hid; rw [laC, hv, hp, hw]; rfl
        obtain ⟨z0, z1, rfl, ⟨a0, a0'⟩, ⟨a1, a1'⟩, b2, ⟨d1, d2⟩, ⟨s1, s2⟩, hpl, _⟩ := vC_of hv
        obtain ⟨n1, n2⟩ := inB_of hw
        have hpb := inB_of hp
        have n1' : 0 ≤ now := by omega
        have hn2 : n = 2 := hs.ints.symm
        subst hn2
        have hpp : p = 0 ∨ p = 1 := by omega
        cases ru
        case false =>
          rcases hpp with rfl | rfl
          · rcases hpl with rfl | rfl
            ·
              have H3 : Hid (laV [z0, z1] del 0 si false 0 now = z0) := rfl
              have H4 : Hid (laC [z0, z1] inc del 0 si false fa 0 now = laV [z0, z1] del 0 si false 0 now) := H1
              go_enter Try.func21, Try.ntmps21
              go_wp2_with fail
              refine (l23Ok_any _ _ _ _ _ _ _ _ _ _ w.heap.size _ (hs.later (Below.alloc (Below.refl _ _) (Nat.le_refl _) _)) (by simp; rfl) (by simp; rfl) (by simp; rfl) (by simp; rfl) (by simp; rfl) (by simp; rfl) (by simp; rfl) hn).mono ?_
              rintro e w1 ⟨rfl, hb1⟩
              obtain ⟨hc1, hf1, hl1, hz1⟩ := bfacts hb1
              obtain ⟨b, off, rfl, hb, hc⟩ := ((hs.later (Below.alloc (Below.refl _ _) (Nat.le_refl _) _)).later hb1).2 (by omega)
              have hc0 := hc 0 _ rfl
              have hc1' := hc 1 _ rfl
              rw [Nat.add_zero] at hc0
              clear hc
              go_wp2_with (first | (go_at_call 23; refine (l00In_any _ _ _ _).mono ?_; rintro e w_ ⟨rfl, rfl⟩))
              go_ret2
              exact ⟨by rw [H4.out, H3.out, H2.out]; rfl, by (repeat' (first | (with_reducible exact Below.refl _ _) | (with_reducible assumption) | (with_reducible refine Below.alloc ?_ ?_ _) | (with_reducible refine Below.drew ?_) | (with_reducible refine belowDrewN ?_ _) | (with_reducible refine Below.setCell ?_ ?_ _) | (with_reducible refine Below.via (by with_reducible assumption) ?_ ?_) | (with_reducible exact Below.size (by with_reducible assumption)) | go_size | (with_reducible refine Nat.le_trans ?_ (Below.size (by with_reducible assumption))) | (with_reducible refine Nat.le_trans ?_ (sizeAlloc _ _)) | (with_reducible refine Nat.le_trans ?_ (sizeSet _ _ _)) | (with_reducible refine Nat.le_trans ?_ (sizeDrew _))))⟩
            ·
              have H3 : Hid (laV [z0, z1] del 1 si false 0 now = z0) := rfl
              have H4 : Hid (laC [z0, z1] inc del 1 si false fa 0 now = laV [z0, z1] del 1 si false 0 now) := H1
              go_enter Try.func21, Try.ntmps21
              go_wp2_with fail
              refine (l23Ok_any _ _ _ _ _ _ _ _ _ _ w.heap.size _ (hs.later (Below.alloc (Below.refl _ _) (Nat.le_refl _) _)) (by simp; rfl) (by simp; rfl) (by simp; rfl) (by simp; rfl) (by simp; rfl) (by simp; rfl) (by simp; rfl) hn).mono ?_
              rintro e w1 ⟨rfl, hb1⟩
              obtain ⟨hc1, hf1, hl1, hz1⟩ := bfacts hb1
              obtain ⟨b, off, rfl, hb, hc⟩ := ((hs.later (Below.alloc (Below.refl _ _) (Nat.le_refl _) _)).later hb1).2 (by omega)
              have hc0 := hc 0 _ rfl
              have hc1' := hc 1 _ rfl
              rw [Nat.add_zero] at hc0
              clear hc
              go_wp2_with (first | (go_at_call 23; refine (l00In_any _ _ _ _).mono ?_; rintro e w_ ⟨rfl, rfl⟩))
              go_ret2
              exact ⟨by rw [H4.out, H3.out, H2.out]; rfl, by (repeat' (first | (with_reducible exact Below.refl _ _) | (with_reducible assumption) | (with_reducible refine Below.alloc ?_ ?_ _) | (with_reducible refine Below.drew ?_) | (with_reducible refine belowDrewN ?_ _) | (with_reducible refine Below.setCell ?_ ?_ _) | (with_reducible refine Below.via (by with_reducible assumption) ?_ ?_) | (with_reducible exact Below.size (by with_reducible assumption)) | go_size | (with_reducible refine Nat.le_trans ?_ (Below.size (by with_reducible assumption))) | (with_reducible refine Nat.le_trans ?_ (sizeAlloc _ _)) | (with_reducible refine Nat.le_trans ?_ (sizeSet _ _ _)) | (with_reducible refine Nat.le_trans ?_ (sizeDrew _))))⟩
          · rcases hpl with rfl | rfl
            ·
              have H3 : Hid (laV [z0, z1] del 0 si false 1 now = z1) := rfl
              have H4 : Hid (laC [z0, z1] inc del 0 si false fa 1 now = laV [z0, z1] del 0 si false 1 now) := H1
              go_enter Try.func21, Try.ntmps21
              go_wp2_with fail
              refine (l23Ok_any _ _ _ _ _ _ _ _ _ _ w.heap.size _ (hs.later (Below.alloc (Below.refl _ _) (Nat.le_refl _) _)) (by simp; rfl) (by simp; rfl) (by simp; rfl) (by simp; rfl) (by simp; rfl) (by simp; rfl) (by simp; rfl) hn).mono ?_
              rintro e w1 ⟨rfl, hb1⟩
              obtain ⟨hc1, hf1, hl1, hz1⟩ := bfacts hb1
              obtain ⟨b, off, rfl, hb, hc⟩ := ((hs.later (Below.alloc (Below.refl _ _) (Nat.le_refl _) _)).later hb1).2 (by omega)
              have hc0 := hc 0 _ rfl
              have hc1' := hc 1 _ rfl
              rw [Nat.add_zero] at hc0
              clear hc
              go_wp2_with (first | (go_at_call 23; refine (l00In_any _ _ _ _).mono ?_; rintro e w_ ⟨rfl, rfl⟩))
              go_ret2
              exact ⟨by rw [H4.out, H3.out, H2.out]; rfl, by (repeat' (first | (with_reducible exact Below.refl _ _) | (with_reducible assumption) | (with_reducible refine Below.alloc ?_ ?_ _) | (with_reducible refine Below.drew ?_) | (with_reducible refine belowDrewN ?_ _) | (with_reducible refine Below.setCell ?_ ?_ _) | (with_reducible refine Below.via (by with_reducible assumption) ?_ ?_) | (with_reducible exact Below.size (by with_reducible assumption)) | go_size | (with_reducible refine Nat.le_trans ?_ (Below.size (by with_reducible assumption))) | (with_reducible refine Nat.le_trans ?_ (sizeAlloc _ _)) | (with_reducible refine Nat.le_trans ?_ (sizeSet _ _ _)) | (with_reducible refine Nat.le_trans ?_ (sizeDrew _))))⟩
            ·
              have H3 : Hid (laV [z0, z1] del 1 si false 1 now = z1) := rfl
              have H4 : Hid (laC [z0, z1] inc del 1 si false fa 1 now = laV [z0, z1] del 1 si false 1 now) := H1
              go_enter Try.func21, Try.ntmps21
              go_wp2_with fail
              refine (l23Ok_any _ _ _ _ _ _ _ _ _ _ w.heap.size _ (hs.later (Below.alloc (Below.refl _ _) (Nat.le_refl _) _)) (by simp; rfl) (by simp; rfl) (by simp; rfl) (by simp; rfl) (by simp; rfl) (by simp; rfl) (by simp; rfl) hn).mono ?_
              rintro e w1 ⟨rfl, hb1⟩
              obtain ⟨hc1, hf1, hl1, hz1⟩ := bfacts hb1
              obtain ⟨b, off, rfl, hb, hc⟩ := ((hs.later (Below.alloc (Below.refl _ _) (Nat.le_refl _) _)).later hb1).2 (by omega)
              have hc0 := hc 0 _ rfl
              have hc1' := hc 1 _ rfl
              rw [Nat.add_zero] at hc0
              clear hc
              go_wp2_with (first | (go_at_call 23; refine (l00In_any _ _ _ _).mono ?_; rintro e w_ ⟨rfl, rfl⟩))
              go_ret2
              exact ⟨by rw [H4.out, H3.out, H2.out]; rfl, by (repeat' (first | (with_reducible exact Below.refl _ _) | (with_reducible assumption) | (with_reducible refine Below.alloc ?_ ?_ _) | (with_reducible refine Below.drew ?_) | (with_reducible refine belowDrewN ?_ _) | (with_reducible refine Below.setCell ?_ ?_ _) | (with_reducible refine Below.via (by with_reducible assumption) ?_ ?_) | (with_reducible exact Below.size (by with_reducible assumption)) | go_size | (with_reducible refine Nat.le_trans ?_ (Below.size (by with_reducible assumption))) | (with_reducible refine Nat.le_trans ?_ (sizeAlloc _ _)) | (with_reducible refine Nat.le_trans ?_ (sizeSet _ _ _)) | (with_reducible refine Nat.le_trans ?_ (sizeDrew _))))⟩
        case true =>
          rcases hpp with rfl | rfl
          · rcases hpl with rfl | rfl
            ·
              have H3 : Hid (laV [z0, z1] del 0 si true 0 now = useV z0 (now - si - del)) := rfl
              have H4 : Hid (laC [z0, z1] inc del 0 si true fa 0 now = laV [z0, z1] del 0 si true 0 now) := H1
              go_enter Try.func21, Try.ntmps21
              go_wp2_with fail
              refine (l23Ok_any _ _ _ _ _ _ _ _ _ _ w.heap.size _ (hs.later (Below.alloc (Below.refl _ _) (Nat.le_refl _) _)) (by simp; rfl) (by simp; rfl) (by simp; rfl) (by simp; rfl) (by simp; rfl) (by simp; rfl) (by simp; rfl) hn).mono ?_
              rintro e w1 ⟨rfl, hb1⟩
              obtain ⟨hc1, hf1, hl1, hz1⟩ := bfacts hb1
              obtain ⟨b, off, rfl, hb, hc⟩ := ((hs.later (Below.alloc (Below.refl _ _) (Nat.le_refl _) _)).later hb1).2 (by omega)
              have hc0 := hc 0 _ rfl
              have hc1' := hc 1 _ rfl
              rw [Nat.add_zero] at hc0
              clear hc
              go_wp2_with (first | (go_at_call 23; refine (l00In_any _ _ _ _).mono ?_; rintro e w_ ⟨rfl, rfl⟩))
              refine (l23Left_any _ _ _ _ _ _ _ _ _ _ w.heap.size now _ ((hs.later (Below.alloc (Below.refl _ _) (Nat.le_refl _) _)).later hb1) ((hc1 _ _ (by simp)).trans (by first | (simp; done) | (simp; rfl))) ((hc1 _ _ (by simp)).trans (by first | (simp; done) | (simp; rfl))) ((hc1 _ _ (by simp)).trans (by first | (simp; done) | (simp; rfl))) ((hc1 _ _ (by simp)).trans (by first | (simp; done) | (simp; rfl))) ((hc1 _ _ (by simp)).trans (by first | (simp; done) | (simp; rfl))) ((hc1 _ _ (by simp)).trans (by first | (simp; done) | (simp; rfl))) ((hc1 _ _ (by simp)).trans (by first | (simp; done) | (simp; rfl))) (by omega) d1 d2 s1 s2 n1' n2 a0 a0' a1 a1').mono ?_
              rintro e w3 ⟨rfl, hb3⟩
              go_wp2_with fail
              go_ret2
              exact ⟨by rw [H4.out, H3.out, H2.out]; rfl, by (repeat' (first | (with_reducible exact Below.refl _ _) | (with_reducible assumption) | (with_reducible refine Below.alloc ?_ ?_ _) | (with_reducible refine Below.drew ?_) | (with_reducible refine belowDrewN ?_ _) | (with_reducible refine Below.setCell ?_ ?_ _) | (with_reducible refine Below.via (by with_reducible assumption) ?_ ?_) | (with_reducible exact Below.size (by with_reducible assumption)) | go_size | (with_reducible refine Nat.le_trans ?_ (Below.size (by with_reducible assumption))) | (with_reducible refine Nat.le_trans ?_ (sizeAlloc _ _)) | (with_reducible refine Nat.le_trans ?_ (sizeSet _ _ _)) | (with_reducible refine Nat.le_trans ?_ (sizeDrew _))))⟩
            ·
              have H3 : Hid (laV [z0, z1] del 1 si true 0 now = z0) := rfl
              have H4 : Hid (laC [z0, z1] inc del 1 si true fa 0 now = laV [z0, z1] del 1 si true 0 now) := H1
              go_enter Try.func21, Try.ntmps21
              go_wp2_with fail
              refine (l23Ok_any _ _ _ _ _ _ _ _ _ _ w.heap.size _ (hs.later (Below.alloc (Below.refl _ _) (Nat.le_refl _) _)) (by simp; rfl) (by simp; rfl) (by simp; rfl) (by simp; rfl) (by simp; rfl) (by simp; rfl) (by simp; rfl) hn).mono ?_
              rintro e w1 ⟨rfl, hb1⟩
              obtain ⟨hc1, hf1, hl1, hz1⟩ := bfacts hb1
              obtain ⟨b, off, rfl, hb, hc⟩ := ((hs.later (Below.alloc (Below.refl _ _) (Nat.le_refl _) _)).later hb1).2 (by omega)
              have hc0 := hc 0 _ rfl
              have hc1' := hc 1 _ rfl
              rw [Nat.add_zero] at hc0
              clear hc
              go_wp2_with (first | (go_at_call 23; refine (l00In_any _ _ _ _).mono ?_; rintro e w_ ⟨rfl, rfl⟩))
              go_ret2
              exact ⟨by rw [H4.out, H3.out, H2.out]; rfl, by (repeat' (first | (with_reducible exact Below.refl _ _) | (with_reducible assumption) | (with_reducible refine Below.alloc ?_ ?_ _) | (with_reducible refine Below.drew ?_) | (with_reducible refine belowDrewN ?_ _) | (with_reducible refine Below.setCell ?_ ?_ _) | (with_reducible refine Below.via (by with_reducible assumption) ?_ ?_) | (with_reducible exact Below.size (by with_reducible assumption)) | go_size | (with_reducible refine Nat.le_trans ?_ (Below.size (by with_reducible assumption))) | (with_reducible refine Nat.le_trans ?_ (sizeAlloc _ _)) | (with_reducible refine Nat.le_trans ?_ (sizeSet _ _ _)) | (with_reducible refine Nat.le_trans ?_ (sizeDrew _))))⟩
          · rcases hpl with rfl | rfl
            ·
              have H3 : Hid (laV [z0, z1] del 0 si true 1 now = z1) := rfl
              have H4 : Hid (laC [z0, z1] inc del 0 si true fa 1 now = laV [z0, z1] del 0 si true 1 now) := H1
              go_enter Try.func21, Try.ntmps21
              go_wp2_with fail
              refine (l23Ok_any _ _ _ _ _ _ _ _ _ _ w.heap.size _ (hs.later (Below.alloc (Below.refl _ _) (Nat.le_refl _) _)) (by simp; rfl) (by simp; rfl) (by simp; rfl) (by simp; rfl) (by simp; rfl) (by simp; rfl) (by simp; rfl) hn).mono ?_
              rintro e w1 ⟨rfl, hb1⟩
              obtain ⟨hc1, hf1, hl1, hz1⟩ := bfacts hb1
              obtain ⟨b, off, rfl, hb, hc⟩ := ((hs.later (Below.alloc (Below.refl _ _) (Nat.le_refl _) _)).later hb1).2 (by omega)
              have hc0 := hc 0 _ rfl
              have hc1' := hc 1 _ rfl
              rw [Nat.add_zero] at hc0
              clear hc
              go_wp2_with (first | (go_at_call 23; refine (l00In_any _ _ _ _).mono ?_; rintro e w_ ⟨rfl, rfl⟩))
              go_ret2
              exact ⟨by rw [H4.out, H3.out, H2.out]; rfl, by (repeat' (first | (with_reducible exact Below.refl _ _) | (with_reducible assumption) | (with_reducible refine Below.alloc ?_ ?_ _) | (with_reducible refine Below.drew ?_) | (with_reducible refine belowDrewN ?_ _) | (with_reducible refine Below.setCell ?_ ?_ _) | (with_reducible refine Below.via (by with_reducible assumption) ?_ ?_) | (with_reducible exact Below.size (by with_reducible assumption)) | go_size | (with_reducible refine Nat.le_trans ?_ (Below.size (by with_reducible assumption))) | (with_reducible refine Nat.le_trans ?_ (sizeAlloc _ _)) | (with_reducible refine Nat.le_trans ?_ (sizeSet _ _ _)) | (with_reducible refine Nat.le_trans ?_ (sizeDrew _))))⟩
            ·
              have H3 : Hid (laV [z0, z1] del 1 si true 1 now = useV z1 (now - si - del)) := rfl
              have H4 : Hid (laC [z0, z1] inc del 1 si true fa 1 now = laV [z0, z1] del 1 si true 1 now) := H1
              go_enter Try.func21, Try.ntmps21
              go_wp2_with fail
              refine (l23Ok_any _ _ _ _ _ _ _ _ _ _ w.heap.size _ (hs.later (Below.alloc (Below.refl _ _) (Nat.le_refl _) _)) (by simp; rfl) (by simp; rfl) (by simp; rfl) (by simp; rfl) (by simp; rfl) (by simp; rfl) (by simp; rfl) hn).mono ?_
              rintro e w1 ⟨rfl, hb1⟩
              obtain ⟨hc1, hf1, hl1, hz1⟩ := bfacts hb1
              obtain ⟨b, off, rfl, hb, hc⟩ := ((hs.later (Below.alloc (Below.refl _ _) (Nat.le_refl _) _)).later hb1).2 (by omega)
              have hc0 := hc 0 _ rfl
              have hc1' := hc 1 _ rfl
              rw [Nat.add_zero] at hc0
              clear hc
              go_wp2_with (first | (go_at_call 23; refine (l00In_any _ _ _ _).mono ?_; rintro e w_ ⟨rfl, rfl⟩))
              refine (l23Left_any _ _ _ _ _ _ _ _ _ _ w.heap.size now _ ((hs.later (Below.alloc (Below.refl _ _) (Nat.le_refl _) _)).later hb1) ((hc1 _ _ (by simp)).trans (by first | (simp; done) | (simp; rfl))) ((hc1 _ _ (by simp)).trans (by first | (simp; done) | (simp; rfl))) ((hc1 _ _ (by simp)).trans (by first | (simp; done) | (simp; rfl))) ((hc1 _ _ (by simp)).trans (by first | (simp; done) | (simp; rfl))) ((hc1 _ _ (by simp)).trans (by first | (simp; done) | (simp; rfl))) ((hc1 _ _ (by simp)).trans (by first | (simp; done) | (simp; rfl))) ((hc1 _ _ (by simp)).trans (by first | (simp; done) | (simp; rfl))) (by omega) d1 d2 s1 s2 n1' n2 a0 a0' a1 a1').mono ?_
              rintro e w3 ⟨rfl, hb3⟩
              go_wp2_with fail
              go_ret2
              exact ⟨by rw [H4.out, H3.out, H2.out]; rfl, by (repeat' (first | (with_reducible exact Below.refl _ _) | (with_reducible assumption) | (with_reducible refine Below.alloc ?_ ?_ _) | (with_reducible refine Below.drew ?_) | (with_reducible refine belowDrewN ?_ _) | (with_reducible refine Below.setCell ?_ ?_ _) | (with_reducible refine Below.via (by with_reducible assumption) ?_ ?_) | (with_reducible exact Below.size (by with_reducible assumption)) | go_size | (with_reducible refine Nat.le_trans ?_ (Below.size (by with_reducible assumption))) | (with_reducible refine Nat.le_trans ?_ (sizeAlloc _ _)) | (with_reducible refine Nat.le_trans ?_ (sizeSet _ _ _)) | (with_reducible refine Nat.le_trans ?_ (sizeDrew _))))⟩
set_option maxHeartbeats 4000000 in
theorem LeftAt_any (A : Option Addr) (n c : Nat) (zs : List Int) (inc del pl si : Int) (ru fa : Bool) (p now : Int) (w : World) (hs : Sl w w.heap.size 1 A n (zs.map (Value.int .i64))) (hn : n ≤ 9223372036854775807) : Calls Try.prog 22 #[.agg #[.slice A n c, .int .i64 inc, .int .i64 del, .int .i64 pl, .int .i64 si, .bool ru, .bool fa], .int .i64 p, .int .i64 now] w fun e w' => e = .returned (.tuple #[.int .i64 (laC zs inc del pl si ru fa p now), .int .i64 (laE zs inc del pl si ru fa p now)]) ∧ Below w.heap.size w w' := by
  cases hv : vC zs inc del pl si ru fa
  case false =>
    have H1 : Hid (laC zs inc del pl si ru fa p now = 0) := by unfold Hid; rw [laC, hv]; rfl
    have H2 : Hid (laE zs inc del pl si ru fa p now = 1) := by unfold Hid; rw [laE, hv]; rfl
    go_enter Try.func22, Try.ntmps22
    go_wp2_with fail
    refine (ValidClock_any _ _ _ _ _ _ _ _ _ _ _ (hs.later (Below.alloc (Below.refl _ _) (Nat.le_refl _) _)) hn).mono ?_
    rintro e w1 ⟨rfl, hb1⟩
    obtain ⟨hc1, hf1, hl1, hz1⟩ := bfacts hb1
    go_wp2_with (first | (go_at_call 33; refine (isPlayer_any _ _).mono ?_; rintro e w_ ⟨rfl, rfl⟩) | (go_at_call 37; refine (isNow_any _ _ _ _ _ _ _ _ _ _ _).mono ?_; rintro e w2 ⟨rfl, hb2⟩; obtain ⟨hc2, hf2, hl2, hz2⟩ := bfacts (Below.via hb2 hb1 hb1.size); obtain ⟨hc2b, hf2b, hl2b, hz2b⟩ := bfacts hb2))
    go_ret2
    exact ⟨by rw [H1.out, H2.out]; rfl, by (repeat' (first | (with_reducible exact Below.refl _ _) | (with_reducible assumption) | (with_reducible refine Below.alloc ?_ ?_ _) | (with_reducible refine Below.drew ?_) | (with_reducible refine belowDrewN ?_ _) | (with_reducible refine Below.setCell ?_ ?_ _) | (with_reducible refine Below.via (by with_reducible assumption) ?_ ?_) | (with_reducible exact Below.size (by with_reducible assumption)) | go_size | (with_reducible refine Nat.le_trans ?_ (Below.size (by with_reducible assumption))) | (with_reducible refine Nat.le_trans ?_ (sizeAlloc _ _)) | (with_reducible refine Nat.le_trans ?_ (sizeSet _ _ _)) | (with_reducible refine Nat.le_trans ?_ (sizeDrew _))))⟩
  case true =>
    cases hp : inB p 0 1
    case false =>
      have H1 : Hid (laC zs inc del pl si ru fa p now = 0) := by unfold Hid; rw [laC, hv, hp]; rfl
      have H2 : Hid (laE zs inc del pl si ru fa p now = 2) := by unfold Hid; rw [laE, hv, hp]; rfl
      go_enter Try.func22, Try.ntmps22
      go_wp2_with fail
      refine (ValidClock_any _ _ _ _ _ _ _ _ _ _ _ (hs.later (Below.alloc (Below.refl _ _) (Nat.le_refl _) _)) hn).mono ?_
      rintro e w1 ⟨rfl, hb1⟩
      obtain ⟨hc1, hf1, hl1, hz1⟩ := bfacts hb1
      go_wp2_with (first | (go_at_call 33; refine (isPlayer_any _ _).mono ?_; rintro e w_ ⟨rfl, rfl⟩) | (go_at_call 37; refine (isNow_any _ _ _ _ _ _ _ _ _ _ _).mono ?_; rintro e w2 ⟨rfl, hb2⟩; obtain ⟨hc2, hf2, hl2, hz2⟩ := bfacts (Below.via hb2 hb1 hb1.size); obtain ⟨hc2b, hf2b, hl2b, hz2b⟩ := bfacts hb2))
      go_ret2
      exact ⟨by rw [H1.out, H2.out]; rfl, by (repeat' (first | (with_reducible exact Below.refl _ _) | (with_reducible assumption) | (with_reducible refine Below.alloc ?_ ?_ _) | (with_reducible refine Below.drew ?_) | (with_reducible refine belowDrewN ?_ _) | (with_reducible refine Below.setCell ?_ ?_ _) | (with_reducible refine Below.via (by with_reducible assumption) ?_ ?_) | (with_reducible exact Below.size (by with_reducible assumption)) | go_size | (with_reducible refine Nat.le_trans ?_ (Below.size (by with_reducible assumption))) | (with_reducible refine Nat.le_trans ?_ (sizeAlloc _ _)) | (with_reducible refine Nat.le_trans ?_ (sizeSet _ _ _)) | (with_reducible refine Nat.le_trans ?_ (sizeDrew _))))⟩
    case true =>
      cases hw : inB now si 36000000
      case false =>
        have H1 : Hid (laC zs inc del pl si ru fa p now = 0) := by unfold Hid; rw [laC, hv, hp, hw]; rfl
        have H2 : Hid (laE zs inc del pl si ru fa p now = 2) := by unfold Hid; rw [laE, hv, hp, hw]; rfl
        go_enter Try.func22, Try.ntmps22
        go_wp2_with fail
        refine (ValidClock_any _ _ _ _ _ _ _ _ _ _ _ (hs.later (Below.alloc (Below.refl _ _) (Nat.le_refl _) _)) hn).mono ?_
        rintro e w1 ⟨rfl, hb1⟩
        obtain ⟨hc1, hf1, hl1, hz1⟩ := bfacts hb1
        go_wp2_with (first | (go_at_call 33; refine (isPlayer_any _ _).mono ?_; rintro e w_ ⟨rfl, rfl⟩) | (go_at_call 37; refine (isNow_any _ _ _ _ _ _ _ _ _ _ _).mono ?_; rintro e w2 ⟨rfl, hb2⟩; obtain ⟨hc2, hf2, hl2, hz2⟩ := bfacts (Below.via hb2 hb1 hb1.size); obtain ⟨hc2b, hf2b, hl2b, hz2b⟩ := bfacts hb2))
        go_ret2
        exact ⟨by rw [H1.out, H2.out]; rfl, by (repeat' (first | (with_reducible exact Below.refl _ _) | (with_reducible assumption) | (with_reducible refine Below.alloc ?_ ?_ _) | (with_reducible refine Below.drew ?_) | (with_reducible refine belowDrewN ?_ _) | (with_reducible refine Below.setCell ?_ ?_ _) | (with_reducible refine Below.via (by with_reducible assumption) ?_ ?_) | (with_reducible exact Below.size (by with_reducible assumption)) | go_size | (with_reducible refine Nat.le_trans ?_ (Below.size (by with_reducible assumption))) | (with_reducible refine Nat.le_trans ?_ (sizeAlloc _ _)) | (with_reducible refine Nat.le_trans ?_ (sizeSet _ _ _)) | (with_reducible refine Nat.le_trans ?_ (sizeDrew _))))⟩
      case true =>
        have H2 : Hid (laE zs inc del pl si ru fa p now = 0) := by unfold Hid; rw [laE, hv, hp, hw]; rfl
        have H1 : Hid (laC zs inc del pl si ru fa p now = laV zs del pl si ru p now) := by unfold Hid; rw [laC, hv, hp, hw]; rfl
        obtain ⟨z0, z1, rfl, ⟨a0, a0'⟩, ⟨a1, a1'⟩, b2, ⟨d1, d2⟩, ⟨s1, s2⟩, hpl, _⟩ := vC_of hv
        obtain ⟨n1, n2⟩ := inB_of hw
        have hpb := inB_of hp
        have n1' : 0 ≤ now := by omega
        have hn2 : n = 2 := hs.ints.symm
        subst hn2
        have hpp : p = 0 ∨ p = 1 := by omega
        cases ru
        case false =>
          rcases hpp with rfl | rfl
          · rcases hpl with rfl | rfl
            ·
              have H3 : Hid (laV [z0, z1] del 0 si false 0 now = z0) := rfl
              have H4 : Hid (laC [z0, z1] inc del 0 si false fa 0 now = laV [z0, z1] del 0 si false 0 now) := H1
              go_enter Try.func22, Try.ntmps22
              go_wp2_with fail
              refine (ValidClock_any _ _ _ _ _ _ _ _ _ _ _ (hs.later (Below.alloc (Below.refl _ _) (Nat.le_refl _) _)) hn).mono ?_
              rintro e w1 ⟨rfl, hb1⟩
              obtain ⟨hc1, hf1, hl1, hz1⟩ := bfacts hb1
              obtain ⟨b, off, rfl, hb, hc⟩ := ((hs.later (Below.alloc (Below.refl _ _) (Nat.le_refl _) _)).later hb1).2 (by omega)
              have hc0 := hc 0 _ rfl
              have hc1' := hc 1 _ rfl
              rw [Nat.add_zero] at hc0
              clear hc
              go_wp2_with (first | (go_at_call 33; refine (isPlayer_any _ _).mono ?_; rintro e w_ ⟨rfl, rfl⟩) | (go_at_call 37; refine (isNow_any _ _ _ _ _ _ _ _ _ _ _).mono ?_; rintro e w2 ⟨rfl, hb2⟩; obtain ⟨hc2, hf2, hl2, hz2⟩ := bfacts (Below.via hb2 hb1 hb1.size); obtain ⟨hc2b, hf2b, hl2b, hz2b⟩ := bfacts hb2))
              have S2 := (((hs.later (Below.alloc (Below.refl _ _) (Nat.le_refl _) _)).later hb1).later hb2)
              go_region_with ((go_at_call 38; refine (taken_still _ _ _ _ _ _ _ _ _ _).mono ?_; rintro e w3 ⟨rfl, hb3⟩; have D3 := Below.via (Below.undrew hb3) (Below.via hb2 hb1 hb1.size) (Nat.le_trans hb1.size hb2.size); obtain ⟨hc3, hf3, hl3, hz3⟩ := bfacts D3; obtain ⟨b3, off3, e3, hb3l, hc3l⟩ := (S2.later (Below.undrew hb3)).2 (by omega); cases e3; have hx0 := hc3l 0 _ rfl; have hx1 := hc3l 1 _ rfl; rw [Nat.add_zero] at hx0; clear hc3l))
              all_goals
                go_wp2_with fail
                go_ret2
                exact ⟨by rw [H4.out, H3.out, H2.out]; exact ret2_int (IntWalk.i64_in _ (by omega)) rfl, below_boxed D3⟩
            ·
              have H3 : Hid (laV [z0, z1] del 1 si false 0 now = z0) := rfl
              have H4 : Hid (laC [z0, z1] inc del 1 si false fa 0 now = laV [z0, z1] del 1 si false 0 now) := H1
              go_enter Try.func22, Try.ntmps22
              go_wp2_with fail
              refine (ValidClock_any _ _ _ _ _ _ _ _ _ _ _ (hs.later (Below.alloc (Below.refl _ _) (Nat.le_refl _) _)) hn).mono ?_
              rintro e w1 ⟨rfl, hb1⟩
              obtain ⟨hc1, hf1, hl1, hz1⟩ := bfacts hb1
              obtain ⟨b, off, rfl, hb, hc⟩ := ((hs.later (Below.alloc (Below.refl _ _) (Nat.le_refl _) _)).later hb1).2 (by omega)
              have hc0 := hc 0 _ rfl
              have hc1' := hc 1 _ rfl
              rw [Nat.add_zero] at hc0
              clear hc
              go_wp2_with (first | (go_at_call 33; refine (isPlayer_any _ _).mono ?_; rintro e w_ ⟨rfl, rfl⟩) | (go_at_call 37; refine (isNow_any _ _ _ _ _ _ _ _ _ _ _).mono ?_; rintro e w2 ⟨rfl, hb2⟩; obtain ⟨hc2, hf2, hl2, hz2⟩ := bfacts (Below.via hb2 hb1 hb1.size); obtain ⟨hc2b, hf2b, hl2b, hz2b⟩ := bfacts hb2))
              go_ret2
              exact ⟨by rw [H4.out, H3.out, H2.out]; rfl, by (repeat' (first | (with_reducible exact Below.refl _ _) | (with_reducible assumption) | (with_reducible refine Below.alloc ?_ ?_ _) | (with_reducible refine Below.drew ?_) | (with_reducible refine belowDrewN ?_ _) | (with_reducible refine Below.setCell ?_ ?_ _) | (with_reducible refine Below.via (by with_reducible assumption) ?_ ?_) | (with_reducible exact Below.size (by with_reducible assumption)) | go_size | (with_reducible refine Nat.le_trans ?_ (Below.size (by with_reducible assumption))) | (with_reducible refine Nat.le_trans ?_ (sizeAlloc _ _)) | (with_reducible refine Nat.le_trans ?_ (sizeSet _ _ _)) | (with_reducible refine Nat.le_trans ?_ (sizeDrew _))))⟩
          · rcases hpl with rfl | rfl
            ·
              have H3 : Hid (laV [z0, z1] del 0 si false 1 now = z1) := rfl
              have H4 : Hid (laC [z0, z1] inc del 0 si false fa 1 now = laV [z0, z1] del 0 si false 1 now) := H1
              go_enter Try.func22, Try.ntmps22
              go_wp2_with fail
              refine (ValidClock_any _ _ _ _ _ _ _ _ _ _ _ (hs.later (Below.alloc (Below.refl _ _) (Nat.le_refl _) _)) hn).mono ?_
              rintro e w1 ⟨rfl, hb1⟩
              obtain ⟨hc1, hf1, hl1, hz1⟩ := bfacts hb1
              obtain ⟨b, off, rfl, hb, hc⟩ := ((hs.later (Below.alloc (Below.refl _ _) (Nat.le_refl _) _)).later hb1).2 (by omega)
              have hc0 := hc 0 _ rfl
              have hc1' := hc 1 _ rfl
              rw [Nat.add_zero] at hc0
              clear hc
              go_wp2_with (first | (go_at_call 33; refine (isPlayer_any _ _).mono ?_; rintro e w_ ⟨rfl, rfl⟩) | (go_at_call 37; refine (isNow_any _ _ _ _ _ _ _ _ _ _ _).mono ?_; rintro e w2 ⟨rfl, hb2⟩; obtain ⟨hc2, hf2, hl2, hz2⟩ := bfacts (Below.via hb2 hb1 hb1.size); obtain ⟨hc2b, hf2b, hl2b, hz2b⟩ := bfacts hb2))
              go_ret2
              exact ⟨by rw [H4.out, H3.out, H2.out]; rfl, by (repeat' (first | (with_reducible exact Below.refl _ _) | (with_reducible assumption) | (with_reducible refine Below.alloc ?_ ?_ _) | (with_reducible refine Below.drew ?_) | (with_reducible refine belowDrewN ?_ _) | (with_reducible refine Below.setCell ?_ ?_ _) | (with_reducible refine Below.via (by with_reducible assumption) ?_ ?_) | (with_reducible exact Below.size (by with_reducible assumption)) | go_size | (with_reducible refine Nat.le_trans ?_ (Below.size (by with_reducible assumption))) | (with_reducible refine Nat.le_trans ?_ (sizeAlloc _ _)) | (with_reducible refine Nat.le_trans ?_ (sizeSet _ _ _)) | (with_reducible refine Nat.le_trans ?_ (sizeDrew _))))⟩
            ·
              have H3 : Hid (laV [z0, z1] del 1 si false 1 now = z1) := rfl
              have H4 : Hid (laC [z0, z1] inc del 1 si false fa 1 now = laV [z0, z1] del 1 si false 1 now) := H1
              go_enter Try.func22, Try.ntmps22
              go_wp2_with fail
              refine (ValidClock_any _ _ _ _ _ _ _ _ _ _ _ (hs.later (Below.alloc (Below.refl _ _) (Nat.le_refl _) _)) hn).mono ?_
              rintro e w1 ⟨rfl, hb1⟩
              obtain ⟨hc1, hf1, hl1, hz1⟩ := bfacts hb1
              obtain ⟨b, off, rfl, hb, hc⟩ := ((hs.later (Below.alloc (Below.refl _ _) (Nat.le_refl _) _)).later hb1).2 (by omega)
              have hc0 := hc 0 _ rfl
              have hc1' := hc 1 _ rfl
              rw [Nat.add_zero] at hc0
              clear hc
              go_wp2_with (first | (go_at_call 33; refine (isPlayer_any _ _).mono ?_; rintro e w_ ⟨rfl, rfl⟩) | (go_at_call 37; refine (isNow_any _ _ _ _ _ _ _ _ _ _ _).mono ?_; rintro e w2 ⟨rfl, hb2⟩; obtain ⟨hc2, hf2, hl2, hz2⟩ := bfacts (Below.via hb2 hb1 hb1.size); obtain ⟨hc2b, hf2b, hl2b, hz2b⟩ := bfacts hb2))
              have S2 := (((hs.later (Below.alloc (Below.refl _ _) (Nat.le_refl _) _)).later hb1).later hb2)
              go_region_with ((go_at_call 38; refine (taken_still _ _ _ _ _ _ _ _ _ _).mono ?_; rintro e w3 ⟨rfl, hb3⟩; have D3 := Below.via (Below.undrew hb3) (Below.via hb2 hb1 hb1.size) (Nat.le_trans hb1.size hb2.size); obtain ⟨hc3, hf3, hl3, hz3⟩ := bfacts D3; obtain ⟨b3, off3, e3, hb3l, hc3l⟩ := (S2.later (Below.undrew hb3)).2 (by omega); cases e3; have hx0 := hc3l 0 _ rfl; have hx1 := hc3l 1 _ rfl; rw [Nat.add_zero] at hx0; clear hc3l))
              all_goals
                go_wp2_with fail
                go_ret2
                exact ⟨by rw [H4.out, H3.out, H2.out]; exact ret2_int (IntWalk.i64_in _ (by omega)) rfl, below_boxed D3⟩
        case true =>
          rcases hpp with rfl | rfl
          · rcases hpl with rfl | rfl
            ·
              have H3 : Hid (laV [z0, z1] del 0 si true 0 now = useV z0 (now - si - del)) := rfl
              have H4 : Hid (laC [z0, z1] inc del 0 si true fa 0 now = laV [z0, z1] del 0 si true 0 now) := H1
              go_enter Try.func22, Try.ntmps22
              go_wp2_with fail
              refine (ValidClock_any _ _ _ _ _ _ _ _ _ _ _ (hs.later (Below.alloc (Below.refl _ _) (Nat.le_refl _) _)) hn).mono ?_
              rintro e w1 ⟨rfl, hb1⟩
              obtain ⟨hc1, hf1, hl1, hz1⟩ := bfacts hb1
              obtain ⟨b, off, rfl, hb, hc⟩ := ((hs.later (Below.alloc (Below.refl _ _) (Nat.le_refl _) _)).later hb1).2 (by omega)
              have hc0 := hc 0 _ rfl
              have hc1' := hc 1 _ rfl
              rw [Nat.add_zero] at hc0
              clear hc
              go_wp2_with (first | (go_at_call 33; refine (isPlayer_any _ _).mono ?_; rintro e w_ ⟨rfl, rfl⟩) | (go_at_call 37; refine (isNow_any _ _ _ _ _ _ _ _ _ _ _).mono ?_; rintro e w2 ⟨rfl, hb2⟩; obtain ⟨hc2, hf2, hl2, hz2⟩ := bfacts (Below.via hb2 hb1 hb1.size); obtain ⟨hc2b, hf2b, hl2b, hz2b⟩ := bfacts hb2))
              have S2 := (((hs.later (Below.alloc (Below.refl _ _) (Nat.le_refl _) _)).later hb1).later hb2)
              obtain ⟨t1, t2⟩ := tkV_bd (z := z0) (t := now - si - del) (by omega)
              have HT := Lib.hid (tkV_use (z := z0) (t := now - si - del) (by omega))
              have HK : ∀ W, Sl W W.heap.size 1 (some ⟨b, off, none⟩) 2 ([z0, z1].map (Value.int .i64)) → Calls Try.prog 38 #[.agg #[.slice (some ⟨b, off, none⟩) 2 c, .int .i64 inc, .int .i64 del, .int .i64 0, .int .i64 si, .bool true, .bool fa], .int .i64 now] W fun e w' => e = .returned (.int .i64 (tkV z0 (now - si - del))) ∧ Below W.heap.size W w' := fun W hW => taken_any _ c z0 z1 inc del 0 si fa now W hW (by omega) d1 d2 s1 s2 n1' n2 a0 a1
              have HKH := Lib.hid HK
              clear HK
              go_region_with ((go_at_call 38; refine (HKH.out _ (by exact S2.drew)).mono ?_; rintro e w3 ⟨rfl, hb3⟩; have D3 := Below.via (Below.undrew hb3) (Below.via hb2 hb1 hb1.size) (Nat.le_trans hb1.size hb2.size); obtain ⟨hc3, hf3, hl3, hz3⟩ := bfacts D3; obtain ⟨b3, off3, e3, hb3l, hc3l⟩ := (S2.later (Below.undrew hb3)).2 (by omega); cases e3; have hx0 := hc3l 0 _ rfl; have hx1 := hc3l 1 _ rfl; rw [Nat.add_zero] at hx0; clear hc3l))
              all_goals
                go_wp2_with fail
                go_ret2
                exact ⟨by rw [H4.out, H3.out, H2.out, ← HT.out]; exact ret2_int (IntWalk.i64_in _ (by omega)) rfl, below_boxed D3⟩
            ·
              have H3 : Hid (laV [z0, z1] del 1 si true 0 now = z0) := rfl
              have H4 : Hid (laC [z0, z1] inc del 1 si true fa 0 now = laV [z0, z1] del 1 si true 0 now) := H1
              go_enter Try.func22, Try.ntmps22
              go_wp2_with fail
              refine (ValidClock_any _ _ _ _ _ _ _ _ _ _ _ (hs.later (Below.alloc (Below.refl _ _) (Nat.le_refl _) _)) hn).mono ?_
              rintro e w1 ⟨rfl, hb1⟩
              obtain ⟨hc1, hf1, hl1, hz1⟩ := bfacts hb1
              obtain ⟨b, off, rfl, hb, hc⟩ := ((hs.later (Below.alloc (Below.refl _ _) (Nat.le_refl _) _)).later hb1).2 (by omega)
              have hc0 := hc 0 _ rfl
              have hc1' := hc 1 _ rfl
              rw [Nat.add_zero] at hc0
              clear hc
              go_wp2_with (first | (go_at_call 33; refine (isPlayer_any _ _).mono ?_; rintro e w_ ⟨rfl, rfl⟩) | (go_at_call 37; refine (isNow_any _ _ _ _ _ _ _ _ _ _ _).mono ?_; rintro e w2 ⟨rfl, hb2⟩; obtain ⟨hc2, hf2, hl2, hz2⟩ := bfacts (Below.via hb2 hb1 hb1.size); obtain ⟨hc2b, hf2b, hl2b, hz2b⟩ := bfacts hb2))
              go_ret2
              exact ⟨by rw [H4.out, H3.out, H2.out]; rfl, by (repeat' (first | (with_reducible exact Below.refl _ _) | (with_reducible assumption) | (with_reducible refine Below.alloc ?_ ?_ _) | (with_reducible refine Below.drew ?_) | (with_reducible refine belowDrewN ?_ _) | (with_reducible refine Below.setCell ?_ ?_ _) | (with_reducible refine Below.via (by with_reducible assumption) ?_ ?_) | (with_reducible exact Below.size (by with_reducible assumption)) | go_size | (with_reducible refine Nat.le_trans ?_ (Below.size (by with_reducible assumption))) | (with_reducible refine Nat.le_trans ?_ (sizeAlloc _ _)) | (with_reducible refine Nat.le_trans ?_ (sizeSet _ _ _)) | (with_reducible refine Nat.le_trans ?_ (sizeDrew _))))⟩
          · rcases hpl with rfl | rfl
            ·
              have H3 : Hid (laV [z0, z1] del 0 si true 1 now = z1) := rfl
              have H4 : Hid (laC [z0, z1] inc del 0 si true fa 1 now = laV [z0, z1] del 0 si true 1 now) := H1
              go_enter Try.func22, Try.ntmps22
              go_wp2_with fail
              refine (ValidClock_any _ _ _ _ _ _ _ _ _ _ _ (hs.later (Below.alloc (Below.refl _ _) (Nat.le_refl _) _)) hn).mono ?_
              rintro e w1 ⟨rfl, hb1⟩
              obtain ⟨hc1, hf1, hl1, hz1⟩ := bfacts hb1
              obtain ⟨b, off, rfl, hb, hc⟩ := ((hs.later (Below.alloc (Below.refl _ _) (Nat.le_refl _) _)).later hb1).2 (by omega)
              have hc0 := hc 0 _ rfl
              have hc1' := hc 1 _ rfl
              rw [Nat.add_zero] at hc0
              clear hc
              go_wp2_with (first | (go_at_call 33; refine (isPlayer_any _ _).mono ?_; rintro e w_ ⟨rfl, rfl⟩) | (go_at_call 37; refine (isNow_any _ _ _ _ _ _ _ _ _ _ _).mono ?_; rintro e w2 ⟨rfl, hb2⟩; obtain ⟨hc2, hf2, hl2, hz2⟩ := bfacts (Below.via hb2 hb1 hb1.size); obtain ⟨hc2b, hf2b, hl2b, hz2b⟩ := bfacts hb2))
              go_ret2
              exact ⟨by rw [H4.out, H3.out, H2.out]; rfl, by (repeat' (first | (with_reducible exact Below.refl _ _) | (with_reducible assumption) | (with_reducible refine Below.alloc ?_ ?_ _) | (with_reducible refine Below.drew ?_) | (with_reducible refine belowDrewN ?_ _) | (with_reducible refine Below.setCell ?_ ?_ _) | (with_reducible refine Below.via (by with_reducible assumption) ?_ ?_) | (with_reducible exact Below.size (by with_reducible assumption)) | go_size | (with_reducible refine Nat.le_trans ?_ (Below.size (by with_reducible assumption))) | (with_reducible refine Nat.le_trans ?_ (sizeAlloc _ _)) | (with_reducible refine Nat.le_trans ?_ (sizeSet _ _ _)) | (with_reducible refine Nat.le_trans ?_ (sizeDrew _))))⟩
            ·
              have H3 : Hid (laV [z0, z1] del 1 si true 1 now = useV z1 (now - si - del)) := rfl
              have H4 : Hid (laC [z0, z1] inc del 1 si true fa 1 now = laV [z0, z1] del 1 si true 1 now) := H1
              go_enter Try.func22, Try.ntmps22
              go_wp2_with fail
              refine (ValidClock_any _ _ _ _ _ _ _ _ _ _ _ (hs.later (Below.alloc (Below.refl _ _) (Nat.le_refl _) _)) hn).mono ?_
              rintro e w1 ⟨rfl, hb1⟩
              obtain ⟨hc1, hf1, hl1, hz1⟩ := bfacts hb1
              obtain ⟨b, off, rfl, hb, hc⟩ := ((hs.later (Below.alloc (Below.refl _ _) (Nat.le_refl _) _)).later hb1).2 (by omega)
              have hc0 := hc 0 _ rfl
              have hc1' := hc 1 _ rfl
              rw [Nat.add_zero] at hc0
              clear hc
              go_wp2_with (first | (go_at_call 33; refine (isPlayer_any _ _).mono ?_; rintro e w_ ⟨rfl, rfl⟩) | (go_at_call 37; refine (isNow_any _ _ _ _ _ _ _ _ _ _ _).mono ?_; rintro e w2 ⟨rfl, hb2⟩; obtain ⟨hc2, hf2, hl2, hz2⟩ := bfacts (Below.via hb2 hb1 hb1.size); obtain ⟨hc2b, hf2b, hl2b, hz2b⟩ := bfacts hb2))
              have S2 := (((hs.later (Below.alloc (Below.refl _ _) (Nat.le_refl _) _)).later hb1).later hb2)
              obtain ⟨t1, t2⟩ := tkV_bd (z := z1) (t := now - si - del) (by omega)
              have HT := Lib.hid (tkV_use (z := z1) (t := now - si - del) (by omega))
              have HK : ∀ W, Sl W W.heap.size 1 (some ⟨b, off, none⟩) 2 ([z0, z1].map (Value.int .i64)) → Calls Try.prog 38 #[.agg #[.slice (some ⟨b, off, none⟩) 2 c, .int .i64 inc, .int .i64 del, .int .i64 1, .int .i64 si, .bool true, .bool fa], .int .i64 now] W fun e w' => e = .returned (.int .i64 (tkV z1 (now - si - del))) ∧ Below W.heap.size W w' := fun W hW => taken_any _ c z0 z1 inc del 1 si fa now W hW (by omega) d1 d2 s1 s2 n1' n2 a0 a1
              have HKH := Lib.hid HK
              clear HK
              go_region_with ((go_at_call 38; refine (HKH.out _ (by exact S2.drew)).mono ?_; rintro e w3 ⟨rfl, hb3⟩; have D3 := Below.via (Below.undrew hb3) (Below.via hb2 hb1 hb1.size) (Nat.le_trans hb1.size hb2.size); obtain ⟨hc3, hf3, hl3, hz3⟩ := bfacts D3; obtain ⟨b3, off3, e3, hb3l, hc3l⟩ := (S2.later (Below.undrew hb3)).2 (by omega); cases e3; have hx0 := hc3l 0 _ rfl; have hx1 := hc3l 1 _ rfl; rw [Nat.add_zero] at hx0; clear hc3l))
              all_goals
                go_wp2_with fail
                go_ret2
                exact ⟨by rw [H4.out, H3.out, H2.out, ← HT.out]; exact ret2_int (IntWalk.i64_in _ (by omega)) rfl, below_boxed D3⟩
set_option maxHeartbeats 2000000 in
theorem la_walk (A : Option Addr) (n c : Nat) (zs : List Int) (inc del pl si : Int) (ru fa : Bool) (p now : Int) (w : World) (hs : Sl w w.heap.size 1 A n (zs.map (Value.int .i64))) (hn : n ≤ 9223372036854775807) : Calls Try.prog 7 #[.agg #[.slice A n c, .int .i64 inc, .int .i64 del, .int .i64 pl, .int .i64 si, .bool ru, .bool fa], .int .i64 p, .int .i64 now] w fun e w' => e = .returned (.bool true) ∧ Below w.heap.size w w' := by
  by_cases hbig : (n : Int) ≤ 1048576
  case neg =>
    go_enter Try.func7, Try.ntmps7
    go_wp2_with fail
    refine (szClock_gt A n c zs inc del pl si ru fa _ (hs.later (by (repeat' (first | (with_reducible exact Below.refl _ _) | (with_reducible assumption) | (with_reducible refine Below.alloc ?_ ?_ _) | (with_reducible refine Below.drew ?_) | (with_reducible refine belowDrewN ?_ _) | (with_reducible refine Below.setCell ?_ ?_ _) | (with_reducible refine Below.via (by with_reducible assumption) ?_ ?_) | (with_reducible exact Below.size (by with_reducible assumption)) | go_size | (with_reducible refine Nat.le_trans ?_ (Below.size (by with_reducible assumption))) | (with_reducible refine Nat.le_trans ?_ (sizeAlloc _ _)) | (with_reducible refine Nat.le_trans ?_ (sizeSet _ _ _)) | (with_reducible refine Nat.le_trans ?_ (sizeDrew _)))))) 1048576 (by omega) (by omega) hn).mono ?_
    rintro e w1 ⟨rfl, hb1⟩
    go_wp2_with fail
    go_ret
    exact ⟨rfl, by (repeat' (first | (with_reducible exact Below.refl _ _) | (with_reducible assumption) | (with_reducible refine Below.alloc ?_ ?_ _) | (with_reducible refine Below.drew ?_) | (with_reducible refine belowDrewN ?_ _) | (with_reducible refine Below.setCell ?_ ?_ _) | (with_reducible refine Below.via (by with_reducible assumption) ?_ ?_) | (with_reducible exact Below.size (by with_reducible assumption)) | go_size | (with_reducible refine Nat.le_trans ?_ (Below.size (by with_reducible assumption))) | (with_reducible refine Nat.le_trans ?_ (sizeAlloc _ _)) | (with_reducible refine Nat.le_trans ?_ (sizeSet _ _ _)) | (with_reducible refine Nat.le_trans ?_ (sizeDrew _))))⟩
  case pos =>
    have hn2 : n ≤ 1048576 := by omega
    go_enter Try.func7, Try.ntmps7
    go_wp2_with fail
    refine (szClock_le A n c zs inc del pl si ru fa _ (hs.later (by (repeat' (first | (with_reducible exact Below.refl _ _) | (with_reducible assumption) | (with_reducible refine Below.alloc ?_ ?_ _) | (with_reducible refine Below.drew ?_) | (with_reducible refine belowDrewN ?_ _) | (with_reducible refine Below.setCell ?_ ?_ _) | (with_reducible refine Below.via (by with_reducible assumption) ?_ ?_) | (with_reducible exact Below.size (by with_reducible assumption)) | go_size | (with_reducible refine Nat.le_trans ?_ (Below.size (by with_reducible assumption))) | (with_reducible refine Nat.le_trans ?_ (sizeAlloc _ _)) | (with_reducible refine Nat.le_trans ?_ (sizeSet _ _ _)) | (with_reducible refine Nat.le_trans ?_ (sizeDrew _)))))) 1048576 (by omega) (by omega)).mono ?_
    rintro e w1 ⟨rfl, hb1⟩
    obtain ⟨hc1, hf1, hl1, hz1⟩ := bfacts hb1
    have B1 : Below w.heap.size w w1 := by (repeat' (first | (with_reducible exact Below.refl _ _) | (with_reducible assumption) | (with_reducible refine Below.alloc ?_ ?_ _) | (with_reducible refine Below.drew ?_) | (with_reducible refine belowDrewN ?_ _) | (with_reducible refine Below.setCell ?_ ?_ _) | (with_reducible refine Below.via (by with_reducible assumption) ?_ ?_) | (with_reducible exact Below.size (by with_reducible assumption)) | go_size | (with_reducible refine Nat.le_trans ?_ (Below.size (by with_reducible assumption))) | (with_reducible refine Nat.le_trans ?_ (sizeAlloc _ _)) | (with_reducible refine Nat.le_trans ?_ (sizeSet _ _ _)) | (with_reducible refine Nat.le_trans ?_ (sizeDrew _))))
    go_wp2_with fail
    refine (toClock_any A n c zs inc del pl si ru fa _ (hs.later B1) hn2).mono ?_
    rintro e w2 ⟨g2, rfl, hg2, k2, hb2⟩
    have C2 := Below.via hb2 hb1 hb1.size
    obtain ⟨hc2, hf2, hl2, hz2⟩ := bfacts C2
    have B2 : Below w.heap.size w w2 := by (repeat' (first | (with_reducible exact Below.refl _ _) | (with_reducible assumption) | (with_reducible refine Below.alloc ?_ ?_ _) | (with_reducible refine Below.drew ?_) | (with_reducible refine belowDrewN ?_ _) | (with_reducible refine Below.setCell ?_ ?_ _) | (with_reducible refine Below.via (by with_reducible assumption) ?_ ?_) | (with_reducible exact Below.size (by with_reducible assumption)) | go_size | (with_reducible refine Nat.le_trans ?_ (Below.size (by with_reducible assumption))) | (with_reducible refine Nat.le_trans ?_ (sizeAlloc _ _)) | (with_reducible refine Nat.le_trans ?_ (sizeSet _ _ _)) | (with_reducible refine Nat.le_trans ?_ (sizeDrew _))))
    go_wp2_with fail
    refine (sLeftAt_any _ n n zs inc del pl si ru fa p now _ (Blk.sl (rest := []) (by simpa using k2) (by simpa using hs.ints)) hn).mono ?_
    rintro e w3 ⟨rfl, hb3⟩
    have C3 := Below.via hb3 C2 C2.size
    obtain ⟨hc3, hf3, hl3, hz3⟩ := bfacts C3
    have B3 : Below w.heap.size w w3 := by (repeat' (first | (with_reducible exact Below.refl _ _) | (with_reducible assumption) | (with_reducible refine Below.alloc ?_ ?_ _) | (with_reducible refine Below.drew ?_) | (with_reducible refine belowDrewN ?_ _) | (with_reducible refine Below.setCell ?_ ?_ _) | (with_reducible refine Below.via (by with_reducible assumption) ?_ ?_) | (with_reducible exact Below.size (by with_reducible assumption)) | go_size | (with_reducible refine Nat.le_trans ?_ (Below.size (by with_reducible assumption))) | (with_reducible refine Nat.le_trans ?_ (sizeAlloc _ _)) | (with_reducible refine Nat.le_trans ?_ (sizeSet _ _ _)) | (with_reducible refine Nat.le_trans ?_ (sizeDrew _))))
    go_wp2_with fail
    refine (toClock_any A n c zs inc del pl si ru fa _ (hs.later B3) hn2).mono ?_
    rintro e w4 ⟨g4, rfl, hg4, k4, hb4⟩
    have C4 := Below.via hb4 C3 C3.size
    obtain ⟨hc4, hf4, hl4, hz4⟩ := bfacts C4
    have B4 : Below w.heap.size w w4 := by (repeat' (first | (with_reducible exact Below.refl _ _) | (with_reducible assumption) | (with_reducible refine Below.alloc ?_ ?_ _) | (with_reducible refine Below.drew ?_) | (with_reducible refine belowDrewN ?_ _) | (with_reducible refine Below.setCell ?_ ?_ _) | (with_reducible refine Below.via (by with_reducible assumption) ?_ ?_) | (with_reducible exact Below.size (by with_reducible assumption)) | go_size | (with_reducible refine Nat.le_trans ?_ (Below.size (by with_reducible assumption))) | (with_reducible refine Nat.le_trans ?_ (sizeAlloc _ _)) | (with_reducible refine Nat.le_trans ?_ (sizeSet _ _ _)) | (with_reducible refine Nat.le_trans ?_ (sizeDrew _))))
    have s4 := Blk.sl (rest := []) (n := n) (m := 1) (zs := zs) (by simpa using k4) (by simpa using hs.ints)
    clear k2 k4
    go_wp2_with fail
    refine (LeftAt_any _ n n zs inc del pl si ru fa p now _ (s4.later (by (repeat' (first | (with_reducible exact Below.refl _ _) | (with_reducible assumption) | (with_reducible refine Below.alloc ?_ ?_ _) | (with_reducible refine Below.drew ?_) | (with_reducible refine belowDrewN ?_ _) | (with_reducible refine Below.setCell ?_ ?_ _) | (with_reducible refine Below.via (by with_reducible assumption) ?_ ?_) | (with_reducible exact Below.size (by with_reducible assumption)) | go_size | (with_reducible refine Nat.le_trans ?_ (Below.size (by with_reducible assumption))) | (with_reducible refine Nat.le_trans ?_ (sizeAlloc _ _)) | (with_reducible refine Nat.le_trans ?_ (sizeSet _ _ _)) | (with_reducible refine Nat.le_trans ?_ (sizeDrew _)))))) hn).mono ?_
    rintro e w5 ⟨rfl, hb5⟩
    have C5 := Below.via hb5 (Below.alloc C4 C4.size _) (Nat.le_trans C4.size (sizeAlloc _ _))
    clear hc1 hf1 hl1 hz1 hc2 hf2 hl2 hz2 hc3 hf3 hl3 hz3 hc4 hf4 hl4 hz4
    obtain ⟨hc5, hf5, hl5, hz5⟩ := bfacts C5
    have B5 : Below w.heap.size w w5 := by (repeat' (first | (with_reducible exact Below.refl _ _) | (with_reducible assumption) | (with_reducible refine Below.alloc ?_ ?_ _) | (with_reducible refine Below.drew ?_) | (with_reducible refine belowDrewN ?_ _) | (with_reducible refine Below.setCell ?_ ?_ _) | (with_reducible refine Below.via (by with_reducible assumption) ?_ ?_) | (with_reducible exact Below.size (by with_reducible assumption)) | go_size | (with_reducible refine Nat.le_trans ?_ (Below.size (by with_reducible assumption))) | (with_reducible refine Nat.le_trans ?_ (sizeAlloc _ _)) | (with_reducible refine Nat.le_trans ?_ (sizeSet _ _ _)) | (with_reducible refine Nat.le_trans ?_ (sizeDrew _))))
    have X5 := (Blk.new w4 24 #[.slice (some ⟨g4, 0, none⟩) n n, .int .i64 inc, .int .i64 del, .int .i64 pl, .int .i64 si, .bool ru, .bool fa]).later hb5
    have hX5 := X5.cell
    have HX := Lib.hid X5
    have s5 := (s4.later (by (repeat' (first | (with_reducible exact Below.refl _ _) | (with_reducible assumption) | (with_reducible refine Below.alloc ?_ ?_ _) | (with_reducible refine Below.drew ?_) | (with_reducible refine belowDrewN ?_ _) | (with_reducible refine Below.setCell ?_ ?_ _) | (with_reducible refine Below.via (by with_reducible assumption) ?_ ?_) | (with_reducible exact Below.size (by with_reducible assumption)) | go_size | (with_reducible refine Nat.le_trans ?_ (Below.size (by with_reducible assumption))) | (with_reducible refine Nat.le_trans ?_ (sizeAlloc _ _)) | (with_reducible refine Nat.le_trans ?_ (sizeSet _ _ _)) | (with_reducible refine Nat.le_trans ?_ (sizeDrew _)))))).later hb5
    have t5 := hs.later B5
    clear X5
    
    go_wp2_with fail
    go_region_with (first | (go_at_call 15; refine (toClock_any A n c zs inc del pl si ru fa _ (by exact t5.drew) hn2).mono ?_; rintro e w6 ⟨g6, rfl, hg6, k6, hb6d⟩; have hb6 := Below.undrew hb6d; have X6 := (HX.out.later hb6).cell; have s6 := Blk.sl (rest := []) (n := n) (m := 1) (zs := zs) (by simpa using k6) (by simpa using hs.ints); have u6 := s5.later hb6; clear k6) | (go_at_call 10; refine (eqClock_same _ n n zs inc del pl si ru fa _ (by exact u6) _ n (by exact s6) hn).mono ?_; rintro e w7 ⟨rfl, hb7⟩))
    all_goals
      go_wp2_with fail
      go_ret
      exact ⟨rfl, by (repeat' (first | (with_reducible exact Below.refl _ _) | (with_reducible assumption) | (with_reducible refine Below.alloc ?_ ?_ _) | (with_reducible refine Below.drew ?_) | (with_reducible refine belowDrewN ?_ _) | (with_reducible refine Below.setCell ?_ ?_ _) | (with_reducible refine Below.via (by with_reducible assumption) ?_ ?_) | (with_reducible exact Below.size (by with_reducible assumption)) | go_size | (with_reducible refine Nat.le_trans ?_ (Below.size (by with_reducible assumption))) | (with_reducible refine Nat.le_trans ?_ (sizeAlloc _ _)) | (with_reducible refine Nat.le_trans ?_ (sizeSet _ _ _)) | (with_reducible refine Nat.le_trans ?_ (sizeDrew _))))⟩
end Go.Proofs.Ytbnccmdbplmmkaa
