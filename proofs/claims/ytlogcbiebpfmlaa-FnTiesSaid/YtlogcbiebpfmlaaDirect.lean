/- DirectScore: both functions, and the law. No conditions beyond lengths. -/
import Derived.Test.YtlogcbiebpfmlaaMatch2
namespace Go.Proofs.Ytlogcbiebpfmlaa
set_option linter.unusedSimpArgs false
set_option linter.unusedVariables false
open Go.RowKit

theorem Sl.matchAt {w : World} {B n : Nat} {A : Option Addr} {vs : List Value} (h : Sl w B 4 A n vs) (ht : TypMatch vs n) {k : Nat} (hk : k < n) :
    ∃ (b off : Nat) (a0 a1 a2 : Int) (a3 : Bool), A = some ⟨b, off, none⟩ ∧ b < B ∧ w.cell? ⟨b, off + k * 4, none⟩ = some (.int .i64 a0) ∧ w.cell? ⟨b, off + k * 4 + 1, none⟩ = some (.int .i64 a1) ∧ w.cell? ⟨b, off + k * 4 + 2, none⟩ = some (.int .i64 a2) ∧ w.cell? ⟨b, off + k * 4 + 3, none⟩ = some (.bool a3) ∧
      Hid (intAt vs (k * 4) = a0 ∧ intAt vs (k * 4 + 1) = a1 ∧ intAt vs (k * 4 + 2) = a2 ∧ boolAt vs (k * 4 + 3) = a3) := by
  obtain ⟨b, off, rfl, hb, hl, hcc⟩ := h.cellV hk
  obtain ⟨a0, a1, a2, a3, v0, v1, v2, v3⟩ := ht k hk
  have hc0 := hcc 0 _ (by omega) (by simpa using v0)
  have hc1 := hcc 1 _ (by omega) (by simpa using v1)
  have hc2 := hcc 2 _ (by omega) (by simpa using v2)
  have hc3 := hcc 3 _ (by omega) (by simpa using v3)
  rw [Nat.add_zero] at hc0
  rw [← Nat.add_assoc] at hc1 hc2 hc3
  exact ⟨b, off, a0, a1, a2, a3, rfl, hb, hc0, hc1, hc2, hc3, intAt_eq v0, intAt_eq v1, intAt_eq v2, boolAt_eq v3⟩
theorem validMs_of {n : Int} {vs : List Value} {c : Nat} (hl : vs.length = c * 4) (h : validMs n vs = true) : ∃ k : Nat, n = k ∧ 2 ≤ k ∧ k ≤ 12 ∧ c ≤ 150 ∧
    ∀ j, j < c → 0 ≤ intAt vs (j * 4) ∧ intAt vs (j * 4) < k ∧ 0 ≤ intAt vs (j * 4 + 1) ∧ intAt vs (j * 4 + 1) < k ∧ intAt vs (j * 4) ≠ intAt vs (j * 4 + 1) ∧ 0 ≤ intAt vs (j * 4 + 2) ∧ intAt vs (j * 4 + 2) ≤ 2 := by
  rw [validMs, Bool.and_eq_true, Bool.and_eq_true, List.all_eq_true] at h
  obtain ⟨⟨h1, h2⟩, h3⟩ := h
  have hn := inB_of h1
  have h2' := of_decide_eq_true h2
  obtain ⟨k, rfl⟩ := Int.eq_ofNat_of_zero_le (show 0 ≤ n by omega)
  refine ⟨k, rfl, by omega, by omega, by omega, fun j hj => ?_⟩
  have hw : wrap64 ((k : Int) - 1) = (k : Int) - 1 := IntWalk.wrap64_in _ (by omega)
  have h4 := h3 j (List.mem_range.2 (by omega))
  rw [hw, okAt, mOk, Bool.and_eq_true, Bool.and_eq_true, Bool.and_eq_true] at h4
  obtain ⟨⟨⟨c1, c2⟩, c3⟩, c4⟩ := h4
  have a1 := inB_of c1
  have a2 := inB_of c2
  have a4 := inB_of c4
  simp at c3
  exact ⟨by omega, by omega, by omega, by omega, c3, by omega, by omega⟩
def dOne (a b x y s : Int) : Int := if x == a && y == b then s else if x == b && y == a then 2 - s else 0
def dTwo (a b x y s : Int) : Int := if x == a && y == b then 2 - s else if x == b && y == a then s else 0
def dS1 (vs : List Value) (a b : Int) : Nat → Int
  | 0 => 0
  | k + 1 => dS1 vs a b k + dOne a b (intAt vs (k * 4)) (intAt vs (k * 4 + 1)) (intAt vs (k * 4 + 2))
def dS2 (vs : List Value) (a b : Int) : Nat → Int
  | 0 => 0
  | k + 1 => dS2 vs a b k + dTwo a b (intAt vs (k * 4)) (intAt vs (k * 4 + 1)) (intAt vs (k * 4 + 2))
theorem dOne_bd {a b x y s : Int} (h0 : 0 ≤ s) (h2 : s ≤ 2) : 0 ≤ dOne a b x y s ∧ dOne a b x y s ≤ 2 := by
  unfold dOne; split
  · omega
  · split <;> omega
theorem dTwo_bd {a b x y s : Int} (h0 : 0 ≤ s) (h2 : s ≤ 2) : 0 ≤ dTwo a b x y s ∧ dTwo a b x y s ≤ 2 := by
  unfold dTwo; split
  · omega
  · split <;> omega
theorem dS_bd {vs : List Value} {a b : Int} {c : Nat} (h : ∀ j, j < c → 0 ≤ intAt vs (j * 4 + 2) ∧ intAt vs (j * 4 + 2) ≤ 2) : ∀ k, k ≤ c → 0 ≤ dS1 vs a b k ∧ dS1 vs a b k ≤ 2 * k ∧ 0 ≤ dS2 vs a b k ∧ dS2 vs a b k ≤ 2 * k := by
  intro k
  induction k with
  | zero => intro _; simp [dS1, dS2]
  | succ k ih =>
    intro hk
    obtain ⟨i1, i2, i3, i4⟩ := ih (by omega)
    obtain ⟨s0, s2⟩ := h k (by omega)
    have d1 := dOne_bd (a := a) (b := b) (x := intAt vs (k * 4)) (y := intAt vs (k * 4 + 1)) s0 s2
    have d2 := dTwo_bd (a := a) (b := b) (x := intAt vs (k * 4)) (y := intAt vs (k * 4 + 1)) s0 s2
    simp only [dS1, dS2]
    omega
/-- What direct returns: both sums, and some number. -/
def DirPost (vs : List Value) (a b : Int) (c : Nat) (w : World) (e : Ending) (w' : World) : Prop := ∃ m : Nat, e = .returned (.tuple #[.int .i64 (dS1 vs a b c), .int .i64 (dS2 vs a b c), .int .i64 m]) ∧ Below w.heap.size w w'
set_option maxHeartbeats 2000000 in
theorem direct_any (A : Option Addr) (c cp : Nat) (vs : List Value) (a b : Int) (w : World) (hs : Sl w w.heap.size 4 A c vs) (ht : TypMatch vs c) (hc : c ≤ 150) (hv : ∀ j, j < c → 0 ≤ intAt vs (j * 4 + 2) ∧ intAt vs (j * 4 + 2) ≤ 2) :
    Calls Try.prog 25 #[.slice A c cp, .int .i64 a, .int .i64 b] w (DirPost vs a b c w) := by
  have HT := Lib.hid ht
  have HV := Lib.hid hv
  clear ht hv
  go_enter Try.func25, Try.ntmps25
  go_wp2
  go_loopw [9, 10, 11, 16] (fun o t n i wr => ∃ k m : Nat, k ≤ c ∧ m ≤ k ∧ i = .int .i64 k ∧ n = .int .i64 m ∧ o = .int .i64 (dS1 vs a b k) ∧ t = .int .i64 (dS2 vs a b k) ∧ Below w.heap.size w wr) (fun _ _ _ i _ => c - (intOf i).toNat)
  case atStart => exact ⟨0, 0, Nat.zero_le _, Nat.zero_le _, rfl, rfl, rfl, rfl, Below.refl _ _⟩
  case round =>
    obtain ⟨k, m, hk, hm, rfl, rfl, rfl, rfl, hbl⟩ := hrel
    by_cases hlt : k < c
    · obtain ⟨blk, off, a0, a1, a2, a3, rfl, hb, hc0, hc1, hc2, hc3, HM⟩ := (hs.below hbl).matchAt HT.out hlt
      obtain ⟨g1, g2, g3, g4⟩ := dS_bd (a := a) (b := b) HV.out k hk
      obtain ⟨s0, s2⟩ := HV.out k hlt
      rw [HM.out.2.2.1] at s0 s2
      have HX1 : Hid (dS1 vs a b (k + 1) = dS1 vs a b k + dOne a b a0 a1 a2) := by unfold Hid; rw [dS1, HM.out.1, HM.out.2.1, HM.out.2.2.1]
      have HX2 : Hid (dS2 vs a b (k + 1) = dS2 vs a b k + dTwo a b a0 a1 a2) := by unfold Hid; rw [dS2, HM.out.1, HM.out.2.1, HM.out.2.2.1]
      revert g1 g2 g3 g4 HX1 HX2
      generalize dS1 vs a b k = x
      generalize dS2 vs a b k = y
      intro g1 g2 g3 g4 HX1 HX2
      cases q1 : (a0 == a) <;> cases q2 : (a1 == b) <;> cases q3 : (a0 == b) <;> cases q4 : (a1 == a)
      all_goals
        simp [dOne, dTwo, q1, q2, q3, q4] at HX1 HX2
        have e1 : IntKind.i64.wrap (x + a2) = x + a2 := IntWalk.i64_in _ (by omega)
        have e2 : IntKind.i64.wrap (y + a2) = y + a2 := IntWalk.i64_in _ (by omega)
        have e3 : IntKind.i64.wrap (x + 2) = x + 2 := IntWalk.i64_in _ (by omega)
        have e4 : IntKind.i64.wrap (y + 2) = y + 2 := IntWalk.i64_in _ (by omega)
        have e5 : IntKind.i64.wrap (x + 2 - a2) = x + 2 - a2 := IntWalk.i64_in _ (by omega)
        have e6 : IntKind.i64.wrap (y + 2 - a2) = y + 2 - a2 := IntWalk.i64_in _ (by omega)
        go_wp2_with fail
        try (go_quiet (fail); go_wp2_with fail)
        clear e1 e2 e3 e4 e5 e6
        go_roundw
        case rel => first | exact ⟨k + 1, m, by omega, by omega, by go_num, by go_num, by rw [HX1.out], by rw [HX2.out], by (repeat' (first | (with_reducible exact Below.refl _ _) | (with_reducible assumption) | (with_reducible refine Below.alloc ?_ ?_ _) | (with_reducible refine Below.drew ?_) | (with_reducible refine belowDrewN ?_ _) | (with_reducible refine Below.setCell ?_ ?_ _) | (with_reducible refine Below.via (by with_reducible assumption) ?_ ?_) | (with_reducible refine Below.viaD (by with_reducible assumption) ?_ ?_) | (with_reducible exact Below.size (by with_reducible assumption)) | go_size | (with_reducible refine Nat.le_trans ?_ (Below.size (by with_reducible assumption))) | (with_reducible refine Nat.le_trans ?_ (sizeAlloc _ _)) | (with_reducible refine Nat.le_trans ?_ (sizeSet _ _ _)) | (with_reducible refine Nat.le_trans ?_ (sizeDrew _))))⟩ | exact ⟨k + 1, m + 1, by omega, by omega, by go_num, by go_num, (by rw [HX1.out] <;> first | rfl | exact congrArg (Value.int .i64) (by omega)), (by rw [HX2.out] <;> first | rfl | exact congrArg (Value.int .i64) (by omega)), by (repeat' (first | (with_reducible exact Below.refl _ _) | (with_reducible assumption) | (with_reducible refine Below.alloc ?_ ?_ _) | (with_reducible refine Below.drew ?_) | (with_reducible refine belowDrewN ?_ _) | (with_reducible refine Below.setCell ?_ ?_ _) | (with_reducible refine Below.via (by with_reducible assumption) ?_ ?_) | (with_reducible refine Below.viaD (by with_reducible assumption) ?_ ?_) | (with_reducible exact Below.size (by with_reducible assumption)) | go_size | (with_reducible refine Nat.le_trans ?_ (Below.size (by with_reducible assumption))) | (with_reducible refine Nat.le_trans ?_ (sizeAlloc _ _)) | (with_reducible refine Nat.le_trans ?_ (sizeSet _ _ _)) | (with_reducible refine Nat.le_trans ?_ (sizeDrew _))))⟩
        case measure => first | (simp [intOf]; done) | (simp [intOf]; omega)
    · obtain rfl : k = c := by omega
      go_wp2_with fail
      go_ret3
      exact ⟨m, rfl, by (repeat' (first | (with_reducible exact Below.refl _ _) | (with_reducible assumption) | (with_reducible refine Below.alloc ?_ ?_ _) | (with_reducible refine Below.drew ?_) | (with_reducible refine belowDrewN ?_ _) | (with_reducible refine Below.setCell ?_ ?_ _) | (with_reducible refine Below.via (by with_reducible assumption) ?_ ?_) | (with_reducible refine Below.viaD (by with_reducible assumption) ?_ ?_) | (with_reducible exact Below.size (by with_reducible assumption)) | go_size | (with_reducible refine Nat.le_trans ?_ (Below.size (by with_reducible assumption))) | (with_reducible refine Nat.le_trans ?_ (sizeAlloc _ _)) | (with_reducible refine Nat.le_trans ?_ (sizeSet _ _ _)) | (with_reducible refine Nat.le_trans ?_ (sizeDrew _))))⟩
end Go.Proofs.Ytlogcbiebpfmlaa
