/- RatePeriod's checks: both functions. Conditions: lengths below 2^63. -/
import Derived.Test.YteeplmnjipddaaaDoorG09
import Derived.Test.YteeplmnjipddaaaDoorG08
namespace Go.Proofs.YteeplmnjipddaaaDoor
set_option linter.unusedSimpArgs false
set_option linter.unusedVariables false
open Go.RowKit

theorem Sl.trio {w : World} {B n : Nat} {A : Option Addr} {zs : List Int} (h : Sl w B 3 A n (zs.map (Value.int .i64))) {k : Nat} (hk : k < n) :
    ∃ b off z0 z1 z2, A = some ⟨b, off, none⟩ ∧ b < B ∧ Hid (zs.getD (k * 3) 0 = z0) ∧ Hid (zs.getD (k * 3 + 1) 0 = z1) ∧ Hid (zs.getD (k * 3 + 2) 0 = z2) ∧ w.cell? ⟨b, off + k * 3, none⟩ = some (.int .i64 z0) ∧ w.cell? ⟨b, off + k * 3 + 1, none⟩ = some (.int .i64 z1) ∧ w.cell? ⟨b, off + k * 3 + 2, none⟩ = some (.int .i64 z2) := by
  obtain ⟨b, off, e, hb, hl, hc⟩ := h.cellAt hk
  have h0 := hc 0 (by omega)
  have h1 := hc 1 (by omega)
  have h2 := hc 2 (by omega)
  rw [Nat.add_zero] at h0
  rw [← Nat.add_assoc] at h1 h2
  exact ⟨b, off, _, _, _, e, hb, rfl, rfl, rfl, h0, h1, h2⟩
theorem Sl.duo {w : World} {B n : Nat} {A : Option Addr} {zs : List Int} (h : Sl w B 2 A n (zs.map (Value.int .i64))) {k : Nat} (hk : k < n) :
    ∃ b off z0 z1, A = some ⟨b, off, none⟩ ∧ b < B ∧ Hid (zs.getD (k * 2) 0 = z0) ∧ Hid (zs.getD (k * 2 + 1) 0 = z1) ∧ w.cell? ⟨b, off + k * 2, none⟩ = some (.int .i64 z0) ∧ w.cell? ⟨b, off + k * 2 + 1, none⟩ = some (.int .i64 z1) := by
  obtain ⟨b, off, e, hb, hl, hc⟩ := h.cellAt hk
  have h0 := hc 0 (by omega)
  have h1 := hc 1 (by omega)
  rw [Nat.add_zero] at h0
  rw [← Nat.add_assoc] at h1
  exact ⟨b, off, _, _, e, hb, rfl, rfl, h0, h1⟩
def okL (L : List Int) (n : Nat) : Bool := (List.range n).all fun i => validB (L.getD (i * 2) 0) (L.getD (i * 2 + 1) 0)
def gOk (m a b s : Int) : Bool := inB a 0 m && inB b 0 m && !(a == b) && inB s 0 2
def okG (G : List Int) (n m : Nat) : Bool := (List.range m).all fun i => gOk ((n : Int) - 1) (G.getD (i * 3) 0) (G.getD (i * 3 + 1) 0) (G.getD (i * 3 + 2) 0)
def rpE (L G : List Int) (n m : Nat) : Int := if okL L n then (if okG G n m then (if n ≤ 100 ∧ m ≤ 100 then 0 else 5) else 2) else 1
theorem okL_no {L : List Int} {n k : Nat} (hk : k < n) {z0 z1 : Int} (h0 : L.getD (k * 2) 0 = z0) (h1 : L.getD (k * 2 + 1) 0 = z1) (h : validB z0 z1 = false) : okL L n = false := by
  rw [okL, Bool.eq_false_iff]
  intro hc
  have := List.all_eq_true.1 hc k (List.mem_range.2 hk)
  rw [h0, h1, h] at this
  exact absurd this (by decide)
theorem okL_yes {L : List Int} {n : Nat} (h : ∀ k, k < n → validB (L.getD (k * 2) 0) (L.getD (k * 2 + 1) 0) = true) : okL L n = true := List.all_eq_true.2 fun k hk => h k (List.mem_range.1 hk)
theorem okG_no {G : List Int} {n m k : Nat} (hk : k < m) {a b s : Int} (h0 : G.getD (k * 3) 0 = a) (h1 : G.getD (k * 3 + 1) 0 = b) (h2 : G.getD (k * 3 + 2) 0 = s) (h : gOk ((n : Int) - 1) a b s = false) : okG G n m = false := by
  rw [okG, Bool.eq_false_iff]
  intro hc
  have := List.all_eq_true.1 hc k (List.mem_range.2 hk)
  rw [h0, h1, h2, h] at this
  exact absurd this (by decide)
theorem okG_yes {G : List Int} {n m : Nat} (h : ∀ i, i < m → gOk ((n : Int) - 1) (G.getD (i * 3) 0) (G.getD (i * 3 + 1) 0) (G.getD (i * 3 + 2) 0) = true) : okG G n m = true := List.all_eq_true.2 fun k hk => h k (List.mem_range.1 hk)
theorem rpE_1 {L G : List Int} {n m : Nat} (h : okL L n = false) : rpE L G n m = 1 := by rw [rpE, h]; rfl
theorem rpE_2 {L G : List Int} {n m : Nat} (h : okL L n = true) (h2 : okG G n m = false) : rpE L G n m = 2 := by rw [rpE, h, h2]; rfl
theorem rpE_5 {L G : List Int} {n m : Nat} (h : okL L n = true) (h2 : okG G n m = true) (h3 : ¬(n ≤ 100 ∧ m ≤ 100)) : rpE L G n m = 5 := by rw [rpE, h, h2, if_neg h3]; rfl
theorem rpE_0 {L G : List Int} {n m : Nat} (h : okL L n = true) (h2 : okG G n m = true) (h3 : n ≤ 100) (h4 : m ≤ 100) : rpE L G n m = 0 := by rw [rpE, h, h2, if_pos (⟨h3, h4⟩ : n ≤ 100 ∧ m ≤ 100)]; rfl
/-- Checked players and games are ready to be rated. -/
theorem GOk_of {L G : List Int} {n m : Nat} (h : okL L n = true) (h2 : okG G n m = true) : GOk L G n m := by
  have hg : ∀ k, k < m → gOk ((n : Int) - 1) (G.getD (k * 3) 0) (G.getD (k * 3 + 1) 0) (G.getD (k * 3 + 2) 0) = true := fun k hk => List.all_eq_true.1 h2 k (List.mem_range.2 hk)
  have hl : ∀ k, k < n → validB (L.getD (k * 2) 0) (L.getD (k * 2 + 1) 0) = true := fun k hk => List.all_eq_true.1 h k (List.mem_range.2 hk)
  refine ⟨fun k hk => ?_, fun k hk => ?_, fun k hk => ?_, fun k hk => ?_, fun i hi => ?_⟩
  · have := hg k hk
    simp only [gOk, Bool.and_eq_true] at this
    have h1 := inB_of this.1.1.1
    omega
  · have := hg k hk
    simp only [gOk, Bool.and_eq_true] at this
    have h1 := inB_of this.1.1.2
    omega
  · have := hg k hk
    simp only [gOk, Bool.and_eq_true] at this
    have h1 := this.1.2
    simpa using h1
  · have := hg k hk
    simp only [gOk, Bool.and_eq_true] at this
    exact inB_of this.2
  · have := hl i hi
    simp only [validB, Bool.and_eq_true] at this
    have h1 := inB_of this.1
    have h3 := inB_of this.2
    omega
set_option maxHeartbeats 1000000 in
theorem areRated_any (A1 : Option Addr) (n c1 : Nat) (L : List Int) (w : World) (hL : Sl w w.heap.size 2 A1 n (L.map (Value.int .i64))) (hn : n ≤ 9223372036854775807) :
    Calls Tryd.prog 28 #[.slice A1 n c1] w fun e w' => e = .returned (.bool (okL L n)) ∧ Below w.heap.size w w' := by
  go_enter Tryd.func28, Tryd.ntmps28
  go_wp2_with fail
  go_loopw [7] (fun i wr => ∃ k : Nat, k ≤ n ∧ i = .int .i64 k ∧ Hid (∀ j, j < k → validB (L.getD (j * 2) 0) (L.getD (j * 2 + 1) 0) = true) ∧ Below w.heap.size w wr) (fun i _ => n - (intOf i).toNat)
  case atStart => exact ⟨0, Nat.zero_le _, rfl, fun j hj => absurd hj (by omega), by (repeat' (first | (with_reducible exact Below.refl _ _) | (with_reducible assumption) | (with_reducible refine Below.alloc ?_ ?_ _) | (with_reducible refine Below.drew ?_) | (with_reducible refine belowDrewN ?_ _) | (with_reducible refine Below.setCell ?_ ?_ _) | (with_reducible refine Below.via (by with_reducible assumption) ?_ ?_) | (with_reducible refine Below.viaD (by with_reducible assumption) ?_ ?_) | (with_reducible exact Below.size (by with_reducible assumption)) | go_size | (with_reducible refine Nat.le_trans ?_ (Below.size (by with_reducible assumption))) | (with_reducible refine Nat.le_trans ?_ (sizeAlloc _ _)) | (with_reducible refine Nat.le_trans ?_ (sizeSet _ _ _)) | (with_reducible refine Nat.le_trans ?_ (sizeDrew _))))⟩
  case round =>
    obtain ⟨k, hk, rfl, hpre, hbl⟩ := hrel
    by_cases hlt : k < n
    · obtain ⟨b, off, z0, z1, rfl, hb, HZ0, HZ1, hc0, hc1⟩ := (hL.below hbl).duo hlt
      cases g : validB z0 z1
      case false =>
        have HE := Lib.hid (okL_no hlt HZ0.out HZ1.out g)
        have G1 := Lib.hid g
        clear g
        go_wp2_with (go_at_call 15; (with_reducible refine Calls.mono (ValidRated_any z0 z1 _) ?_); rw [G1.out]; rintro e w1 ⟨rfl, hb1⟩)
        go_ret
        exact ⟨by rw [HE.out]; rfl, by (repeat' (first | (with_reducible exact Below.refl _ _) | (with_reducible assumption) | (with_reducible refine Below.alloc ?_ ?_ _) | (with_reducible refine Below.drew ?_) | (with_reducible refine belowDrewN ?_ _) | (with_reducible refine Below.setCell ?_ ?_ _) | (with_reducible refine Below.via (by with_reducible assumption) ?_ ?_) | (with_reducible refine Below.viaD (by with_reducible assumption) ?_ ?_) | (with_reducible exact Below.size (by with_reducible assumption)) | go_size | (with_reducible refine Nat.le_trans ?_ (Below.size (by with_reducible assumption))) | (with_reducible refine Nat.le_trans ?_ (sizeAlloc _ _)) | (with_reducible refine Nat.le_trans ?_ (sizeSet _ _ _)) | (with_reducible refine Nat.le_trans ?_ (sizeDrew _))))⟩
      case true =>
        have G1 := Lib.hid g
        clear g
        go_wp2_with (go_at_call 15; (with_reducible refine Calls.mono (ValidRated_any z0 z1 _) ?_); rw [G1.out]; rintro e w1 ⟨rfl, hb1⟩)
        go_roundw
        case rel =>
          refine ⟨k + 1, by omega, by go_num, fun j hj => ?_, by (repeat' (first | (with_reducible exact Below.refl _ _) | (with_reducible assumption) | (with_reducible refine Below.alloc ?_ ?_ _) | (with_reducible refine Below.drew ?_) | (with_reducible refine belowDrewN ?_ _) | (with_reducible refine Below.setCell ?_ ?_ _) | (with_reducible refine Below.via (by with_reducible assumption) ?_ ?_) | (with_reducible refine Below.viaD (by with_reducible assumption) ?_ ?_) | (with_reducible exact Below.size (by with_reducible assumption)) | go_size | (with_reducible refine Nat.le_trans ?_ (Below.size (by with_reducible assumption))) | (with_reducible refine Nat.le_trans ?_ (sizeAlloc _ _)) | (with_reducible refine Nat.le_trans ?_ (sizeSet _ _ _)) | (with_reducible refine Nat.le_trans ?_ (sizeDrew _))))⟩
          rcases Nat.lt_or_ge j k with h | h
          · exact hpre.out j h
          · obtain rfl : j = k := by omega
            rw [HZ0.out, HZ1.out]
            exact G1.out
        case measure => first | (simp [intOf]; done) | (simp [intOf]; omega)
    · obtain rfl : n = k := by omega
      have HOL := Lib.hid (okL_yes hpre.out)
      go_wp2
      go_ret
      exact ⟨by rw [HOL.out]; rfl, by (repeat' (first | (with_reducible exact Below.refl _ _) | (with_reducible assumption) | (with_reducible refine Below.alloc ?_ ?_ _) | (with_reducible refine Below.drew ?_) | (with_reducible refine belowDrewN ?_ _) | (with_reducible refine Below.setCell ?_ ?_ _) | (with_reducible refine Below.via (by with_reducible assumption) ?_ ?_) | (with_reducible refine Below.viaD (by with_reducible assumption) ?_ ?_) | (with_reducible exact Below.size (by with_reducible assumption)) | go_size | (with_reducible refine Nat.le_trans ?_ (Below.size (by with_reducible assumption))) | (with_reducible refine Nat.le_trans ?_ (sizeAlloc _ _)) | (with_reducible refine Nat.le_trans ?_ (sizeSet _ _ _)) | (with_reducible refine Nat.le_trans ?_ (sizeDrew _))))⟩
set_option maxHeartbeats 2000000 in
theorem l25Code_any (A1 A2 : Option Addr) (n c1 m c2 : Nat) (L G : List Int) (w : World) (hL : Sl w w.heap.size 2 A1 n (L.map (Value.int .i64))) (hG : Sl w w.heap.size 3 A2 m (G.map (Value.int .i64))) (hn : n ≤ 9223372036854775807) (hm : m ≤ 9223372036854775807) :
    Calls Tryd.prog 31 #[.slice A1 n c1, .slice A2 m c2] w fun e w' => e = .returned (.int .i64 (rpE L G n m)) ∧ Below w.heap.size w w' := by
  have HG := Lib.hid hG
  clear hG
  go_enter Tryd.func31, Tryd.ntmps31
  go_wp2_with fail
  go_loopw [6] (fun i wr => ∃ k : Nat, k ≤ n ∧ i = .int .i64 k ∧ Hid (∀ j, j < k → validB (L.getD (j * 2) 0) (L.getD (j * 2 + 1) 0) = true) ∧ Below w.heap.size w wr) (fun i _ => n - (intOf i).toNat)
  case atStart => exact ⟨0, Nat.zero_le _, rfl, fun j hj => absurd hj (by omega), by (repeat' (first | (with_reducible exact Below.refl _ _) | (with_reducible assumption) | (with_reducible refine Below.alloc ?_ ?_ _) | (with_reducible refine Below.drew ?_) | (with_reducible refine belowDrewN ?_ _) | (with_reducible refine Below.setCell ?_ ?_ _) | (with_reducible refine Below.via (by with_reducible assumption) ?_ ?_) | (with_reducible refine Below.viaD (by with_reducible assumption) ?_ ?_) | (with_reducible exact Below.size (by with_reducible assumption)) | go_size | (with_reducible refine Nat.le_trans ?_ (Below.size (by with_reducible assumption))) | (with_reducible refine Nat.le_trans ?_ (sizeAlloc _ _)) | (with_reducible refine Nat.le_trans ?_ (sizeSet _ _ _)) | (with_reducible refine Nat.le_trans ?_ (sizeDrew _))))⟩
  case round =>
    obtain ⟨k, hk, rfl, hpre, hbl⟩ := hrel
    by_cases hlt : k < n
    · obtain ⟨b, off, z0, z1, rfl, hb, HZ0, HZ1, hc0, hc1⟩ := (hL.below hbl).duo hlt
      cases g : validB z0 z1
      case false =>
        have HE := Lib.hid (okL_no hlt HZ0.out HZ1.out g)
        have G1 := Lib.hid g
        clear g
        go_wp2_with (go_at_call 26; (with_reducible refine Calls.mono (l25Ok_any z0 z1 _) ?_); rw [G1.out]; rintro e w1 ⟨rfl, hb1⟩)
        go_ret
        exact ⟨by rw [rpE_1 HE.out]; rfl, by (repeat' (first | (with_reducible exact Below.refl _ _) | (with_reducible assumption) | (with_reducible refine Below.alloc ?_ ?_ _) | (with_reducible refine Below.drew ?_) | (with_reducible refine belowDrewN ?_ _) | (with_reducible refine Below.setCell ?_ ?_ _) | (with_reducible refine Below.via (by with_reducible assumption) ?_ ?_) | (with_reducible refine Below.viaD (by with_reducible assumption) ?_ ?_) | (with_reducible exact Below.size (by with_reducible assumption)) | go_size | (with_reducible refine Nat.le_trans ?_ (Below.size (by with_reducible assumption))) | (with_reducible refine Nat.le_trans ?_ (sizeAlloc _ _)) | (with_reducible refine Nat.le_trans ?_ (sizeSet _ _ _)) | (with_reducible refine Nat.le_trans ?_ (sizeDrew _))))⟩
      case true =>
        have G1 := Lib.hid g
        clear g
        go_wp2_with (go_at_call 26; (with_reducible refine Calls.mono (l25Ok_any z0 z1 _) ?_); rw [G1.out]; rintro e w1 ⟨rfl, hb1⟩)
        go_roundw
        case rel =>
          refine ⟨k + 1, by omega, by go_num, fun j hj => ?_, by (repeat' (first | (with_reducible exact Below.refl _ _) | (with_reducible assumption) | (with_reducible refine Below.alloc ?_ ?_ _) | (with_reducible refine Below.drew ?_) | (with_reducible refine belowDrewN ?_ _) | (with_reducible refine Below.setCell ?_ ?_ _) | (with_reducible refine Below.via (by with_reducible assumption) ?_ ?_) | (with_reducible refine Below.viaD (by with_reducible assumption) ?_ ?_) | (with_reducible exact Below.size (by with_reducible assumption)) | go_size | (with_reducible refine Nat.le_trans ?_ (Below.size (by with_reducible assumption))) | (with_reducible refine Nat.le_trans ?_ (sizeAlloc _ _)) | (with_reducible refine Nat.le_trans ?_ (sizeSet _ _ _)) | (with_reducible refine Nat.le_trans ?_ (sizeDrew _))))⟩
          rcases Nat.lt_or_ge j k with h | h
          · exact hpre.out j h
          · obtain rfl : j = k := by omega
            rw [HZ0.out, HZ1.out]
            exact G1.out
        case measure => first | (simp [intOf]; done) | (simp [intOf]; omega)
    · obtain rfl : n = k := by omega
      have HOL := Lib.hid (okL_yes hpre.out)
      have HBW := Lib.hid hbl
      clear hbl
      go_wp2_with fail
      go_loopw [7] (fun i wr => ∃ k : Nat, k ≤ m ∧ i = .int .i64 k ∧ Hid (∀ i, i < k → gOk ((n : Int) - 1) (G.getD (i * 3) 0) (G.getD (i * 3 + 1) 0) (G.getD (i * 3 + 2) 0) = true) ∧ Below w.heap.size w wr) (fun i _ => m - (intOf i).toNat)
      case atStart => exact ⟨0, Nat.zero_le _, rfl, fun j hj => absurd hj (by omega), HBW.out⟩
      case round =>
        obtain ⟨k, hk, rfl, hpre, hbl⟩ := hrel
        have HBL := Lib.hid hbl
        have hbs := hbl.size
        by_cases hlt : k < m
        · obtain ⟨b, off, x, y, s, rfl, hb, HZ0, HZ1, HZ2, hc0, hc1, hc2⟩ := (HG.out.below hbl).trio hlt
          have HGE : Hid (gOk ((n : Int) - 1) x y s = (inB x 0 ((n : Int) - 1) && inB y 0 ((n : Int) - 1) && !(x == y) && inB s 0 2)) := rfl
          clear hbl
          obtain ⟨q1, e1⟩ : ∃ q, inB x 0 ((n : Int) - 1) = q := ⟨_, rfl⟩
          obtain ⟨q2, e2⟩ : ∃ q, inB y 0 ((n : Int) - 1) = q := ⟨_, rfl⟩
          obtain ⟨q4, e4⟩ : ∃ q, inB s 0 2 = q := ⟨_, rfl⟩
          rw [e1, e2, e4] at HGE
          have E1 := Lib.hid e1
          have E2 := Lib.hid e2
          have E4 := Lib.hid e4
          clear e1 e2 e4
          have hwn : IntKind.i64.wrap ((n : Int) - 1) = (n : Int) - 1 := IntWalk.i64_in _ (by omega)
          cases q3 : (x == y) <;> cases q1 <;> cases q2 <;> cases q4
          all_goals
            rw [q3] at HGE
            have hgv : Hid (okG G n m = false) ∨ Hid (gOk ((n : Int) - 1) x y s = true) := by
              first
              | exact Or.inr HGE.out
              | exact Or.inl (okG_no hlt HZ0.out HZ1.out HZ2.out HGE.out)
            clear HGE
            go_wp2_with (first | (go_at_call 43; (with_reducible refine Calls.mono (l00In_any x 0 ((n : Int) - 1) _) ?_); rw [E1.out]; rintro e w1 ⟨rfl, rfl⟩) | (go_at_call 43; (with_reducible refine Calls.mono (l00In_any y 0 ((n : Int) - 1) _) ?_); rw [E2.out]; rintro e w1 ⟨rfl, rfl⟩) | (go_at_call 43; (with_reducible refine Calls.mono (l00In_any s 0 2 _) ?_); rw [E4.out]; rintro e w1 ⟨rfl, rfl⟩))
            first
            | (go_ret
               rcases hgv with hgv | hgv
               · exact ⟨by rw [rpE_2 HOL.out hgv.out]; rfl, by have := HBL.out; (repeat' (first | (with_reducible exact Below.refl _ _) | (with_reducible assumption) | (with_reducible refine Below.alloc ?_ ?_ _) | (with_reducible refine Below.drew ?_) | (with_reducible refine belowDrewN ?_ _) | (with_reducible refine Below.setCell ?_ ?_ _) | (with_reducible refine Below.via (by with_reducible assumption) ?_ ?_) | (with_reducible refine Below.viaD (by with_reducible assumption) ?_ ?_) | (with_reducible exact Below.size (by with_reducible assumption)) | go_size | (with_reducible refine Nat.le_trans ?_ (Below.size (by with_reducible assumption))) | (with_reducible refine Nat.le_trans ?_ (sizeAlloc _ _)) | (with_reducible refine Nat.le_trans ?_ (sizeSet _ _ _)) | (with_reducible refine Nat.le_trans ?_ (sizeDrew _))))⟩
               · exfalso; have h9 := hgv.out; simp [gOk, E1.out, E2.out, E4.out, q3] at h9)
            | (go_roundw
               case rel =>
                 refine ⟨k + 1, by omega, by go_num, fun j hj => ?_, by have := HBL.out; (repeat' (first | (with_reducible exact Below.refl _ _) | (with_reducible assumption) | (with_reducible refine Below.alloc ?_ ?_ _) | (with_reducible refine Below.drew ?_) | (with_reducible refine belowDrewN ?_ _) | (with_reducible refine Below.setCell ?_ ?_ _) | (with_reducible refine Below.via (by with_reducible assumption) ?_ ?_) | (with_reducible refine Below.viaD (by with_reducible assumption) ?_ ?_) | (with_reducible exact Below.size (by with_reducible assumption)) | go_size | (with_reducible refine Nat.le_trans ?_ (Below.size (by with_reducible assumption))) | (with_reducible refine Nat.le_trans ?_ (sizeAlloc _ _)) | (with_reducible refine Nat.le_trans ?_ (sizeSet _ _ _)) | (with_reducible refine Nat.le_trans ?_ (sizeDrew _))))⟩
                 rcases Nat.lt_or_ge j k with h | h
                 · exact hpre.out j h
                 · obtain rfl : j = k := by omega
                   rw [HZ0.out, HZ1.out, HZ2.out]
                   simp [gOk, E1.out, E2.out, E4.out, q3]
               case measure => first | (simp [intOf]; done) | (simp [intOf]; omega))
        · obtain rfl : k = m := by omega
          have HOG := Lib.hid (okG_yes hpre.out)
          clear hbl
          by_cases hb1 : n ≤ 100
          · by_cases hb2 : k ≤ 100
            · go_wp2
              go_ret
              exact ⟨by rw [rpE_0 HOL.out HOG.out hb1 hb2]; rfl, HBL.out⟩
            · go_wp2
              go_ret
              exact ⟨by rw [rpE_5 HOL.out HOG.out (by omega)]; rfl, HBL.out⟩
          · go_wp2
            go_ret
            exact ⟨by rw [rpE_5 HOL.out HOG.out (by omega)]; rfl, HBL.out⟩
end Go.Proofs.YteeplmnjipddaaaDoor
