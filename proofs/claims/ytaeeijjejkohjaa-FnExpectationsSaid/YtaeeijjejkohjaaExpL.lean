/- FnExpectations: the law. No conditions. -/
import Derived.Test.YtaeeijjejkohjaaDraw3
import Derived.Test.YtaeeijjejkohjaaRate6
namespace Go.Proofs.Ytaeeijjejkohjaa
set_option linter.unusedSimpArgs false
set_option linter.unusedVariables false
open Go.RowKit Go.WideShapes Go.ChangeShapes

theorem exE_comm (a b : Int) : exE b a = exE a b := by rw [exE, exE, Bool.and_comm]
theorem exE_ok {a b : Int} (h : exE a b = 0) : (0 ≤ a ∧ a ≤ 4000) ∧ (0 ≤ b ∧ b ≤ 4000) := by
  unfold exE at h
  cases q : (inB a 0 4000 && inB b 0 4000)
  · rw [q] at h; exact absurd h (by decide)
  · rw [Bool.and_eq_true] at q
    exact ⟨inB_of q.1, inB_of q.2⟩
theorem exC_in {a b : Int} (ha : 0 ≤ a ∧ a ≤ 4000) (hb : 0 ≤ b ∧ b ≤ 4000) : exC a b = expE (a - b) ∧ exE a b = 0 := by
  rw [exC, exE, inB_t ha.1 ha.2, inB_t hb.1 hb.2]
  exact ⟨rfl, rfl⟩
theorem expP_zero : expP 0 = 500 := by decide
theorem expE_two (d : Int) : expE d + expE (-d) = 1000 := by
  rcases Int.lt_trichotomy d 0 with h | h | h
  · rw [expE, if_pos h, expE, if_neg (by omega)]; omega
  · subst h
    have e : expE 0 = 500 := by rw [expE, if_neg (by omega)]; exact expP_zero
    rw [show -(0 : Int) = 0 from rfl, e]
    rfl
  · rw [expE, if_neg (by omega), expE, if_pos (by omega), Int.neg_neg]; omega
theorem perfD_spec {zs : List Int} {want : Int} : ∀ (k : Nat) (v : Int), perfD zs want k = some v → 0 ≤ v ∧ v ≤ k ∧ sumE v zs ≤ want ∧ (v < k → want < sumE (v + 1) zs)
  | 0, v, h => by
    by_cases q : sumE ((0 : Nat) : Int) zs ≤ want
    · rw [perfD_hit q] at h
      injection h with h
      subst h
      exact ⟨by omega, by omega, q, fun h => by omega⟩
    · rw [perfD_none q] at h
      cases h
  | k + 1, v, h => by
    by_cases q : sumE ((k + 1 : Nat) : Int) zs ≤ want
    · rw [perfD_hit q] at h
      injection h with h
      subst h
      exact ⟨by omega, by omega, q, fun h => by omega⟩
    · rw [perfD_miss q] at h
      obtain ⟨h0, h1, h2, h3⟩ := perfD_spec k v h
      refine ⟨h0, by omega, h2, fun _ => ?_⟩
      by_cases hv : v < k
      · exact h3 hv
      · have e : v + 1 = ((k + 1 : Nat) : Int) := by omega
        rw [e]; omega
theorem pf_zero {zs : List Int} {s : Int} (h : pfE zs s = 0) : ∃ v, pfC zs s = v ∧ 0 ≤ v ∧ v ≤ 4000 ∧ sumE v zs ≤ 500 * s ∧ (v < 4000 → 500 * s < sumE (v + 1) zs) ∧ othersB zs = true := by
  cases q : pfOk zs s
  · rw [pfE_no q] at h; exact absurd h (by decide)
  · cases q2 : perfD zs (500 * s) top with
    | none => rw [pfE_none q q2] at h; exact absurd h (by decide)
    | some v =>
      have h1 := perfD_spec top v q2
      rw [top_eq] at h1
      refine ⟨v, pfC_some q q2, h1.1, h1.2.1, h1.2.2.1, h1.2.2.2, ?_⟩
      rw [pfOk, Bool.and_eq_true] at q
      exact q.1
theorem su_in {r : Int} {zs : List Int} (h0 : 0 ≤ r) (h1 : r ≤ 4000) (h : othersB zs = true) : suC r zs = sumE r zs ∧ suE r zs = 0 := by
  rw [suC, suE, inB_t h0 h1, h]
  exact ⟨rfl, rfl⟩
set_option maxRecDepth 100000 in
set_option maxHeartbeats 8000000 in
theorem fnExpectations_walk (A : Option Addr) (n c : Nat) (cs : List Int) (w : World) (hs : Sl w w.heap.size 1 A n (cs.map (Value.int .u8))) (hm : n ≤ 9223372036854775807) (hb : ∀ z ∈ cs, 0 ≤ z ∧ z ≤ 255) :
    Calls Try.prog 4 #[.slice A n c] w fun e w' => e = .returned (.bool true) ∧ Below w.heap.size w w' := by
  have HS := Lib.hid hs
  have HB := Lib.hid hb
  clear hs hb
  go_enter Try.func4, Try.ntmps4
  go_wp2_with fail
  refine (f6big_any A n c _).mono ?_
  rintro e w_ ⟨q, rfl, hq, rfl⟩
  cases q
  case true =>
    go_wp2_with fail
    go_ret
    exact ⟨rfl, by (repeat' (first | (with_reducible exact Below.refl _ _) | (with_reducible assumption) | (with_reducible refine Below.alloc ?_ ?_ _) | (with_reducible refine Below.drew ?_) | (with_reducible refine belowDrewN ?_ _) | (with_reducible refine Below.setCell ?_ ?_ _) | (with_reducible refine Below.via (by with_reducible assumption) ?_ ?_) | (with_reducible refine Below.viaD (by with_reducible assumption) ?_ ?_) | (with_reducible exact Below.size (by with_reducible assumption)) | go_size | (with_reducible refine Nat.le_trans ?_ (Below.size (by with_reducible assumption))) | (with_reducible refine Nat.le_trans ?_ (sizeAlloc _ _)) | (with_reducible refine Nat.le_trans ?_ (sizeSet _ _ _)) | (with_reducible refine Nat.le_trans ?_ (sizeDrew _))))⟩
  case false =>
  have hn := hq rfl
  clear hq
  go_wp2_with fail
  refine (DrawExpectedScore_any A n c cs _ HS.out HB.out (by omega)).mono ?_
  rintro e w1 ⟨a, b, rfl, a0, a1, b0, b1, h1⟩
  have B1 := Lib.hid h1
  clear h1
  obtain ⟨es, hes⟩ : ∃ v, exC a b = v := ⟨_, rfl⟩
  obtain ⟨bad, hbad⟩ : ∃ v, exE a b = v := ⟨_, rfl⟩
  obtain ⟨fs, hfs⟩ : ∃ v, exC b a = v := ⟨_, rfl⟩
  have hone : exE b a = bad := by rw [exE_comm, hbad]
  have HE := Lib.hid hes
  have HBad := Lib.hid hbad
  have HF := Lib.hid hfs
  have HO := Lib.hid hone
  clear hes hbad hfs hone
  go_wp2_with fail
  refine (ExpectedScore_any a b _).mono ?_
  rw [HE.out, HBad.out]
  rintro e w2 ⟨rfl, h2⟩
  have B2 := Lib.hid (Below.via h2 B1.out B1.out.size)
  clear h2
  go_wp2_with fail
  refine (sExpectedScore_any a b _).mono ?_
  rw [HE.out, HBad.out]
  rintro e w3 ⟨rfl, h2⟩
  have B3 := Lib.hid (Below.via h2 B2.out B2.out.size)
  clear h2
  go_wp2_with fail
  refine (ExpectedScore_any b a _).mono ?_
  rw [HF.out, HO.out]
  rintro e w4 ⟨rfl, h2⟩
  have B4 := Lib.hid (Below.via h2 B3.out B3.out.size)
  clear h2
  go_wp2_with fail
  refine (DrawSumExpected_any A n c cs _ (HS.out.later B4.out) HB.out (by omega)).mono ?_
  rintro e w5 ⟨r, zs, v, rfl, r0, r1, ho, hzl, h2⟩
  have B5 := Lib.hid (Below.via h2 B4.out B4.out.size)
  obtain ⟨A1, g1, cap1, rfl, hg1, _, _, o1⟩ := own_of_row ho
  have S1 := Lib.hid o1.sl
  clear h2 ho o1
  obtain ⟨sm, hsm⟩ : ∃ v, suC r zs = v := ⟨_, rfl⟩
  obtain ⟨sw, hsw⟩ : ∃ v, suE r zs = v := ⟨_, rfl⟩
  have HSM := Lib.hid hsm
  have HSW := Lib.hid hsw
  clear hsm hsw
  go_wp2_with fail
  refine (SumExpected_any r A1 zs.length cap1 zs _ S1.out (by omega)).mono ?_
  rw [HSM.out, HSW.out]
  rintro e w6 ⟨rfl, h2⟩
  have B6 := Lib.hid (Below.via h2 B5.out B5.out.size)
  replace S1 := Lib.hid (S1.out.later h2)
  clear h2
  go_wp2_with fail
  refine (sSumExpected_any r A1 zs.length cap1 zs _ S1.out (by omega)).mono ?_
  rw [HSM.out, HSW.out]
  rintro e w7 ⟨rfl, h2⟩
  have B7 := Lib.hid (Below.via h2 B6.out B6.out.size)
  clear h2 S1
  go_wp2_with fail
  refine (DrawPerformanceOf_any A n c cs _ (HS.out.later B7.out) HB.out (by omega)).mono ?_
  rintro e w8 ⟨sc, ys, v, rfl, s0, s1, ho, hyl, h2⟩
  have B8 := Lib.hid (Below.via h2 B7.out B7.out.size)
  obtain ⟨A2, g2, cap2, rfl, hg2, _, _, o2⟩ := own_of_row ho
  have S2 := Lib.hid o2.sl
  clear h2 ho o2
  obtain ⟨pf, hpf⟩ : ∃ v, pfC ys sc = v := ⟨_, rfl⟩
  obtain ⟨pe, hpe⟩ : ∃ v, pfE ys sc = v := ⟨_, rfl⟩
  have HPF := Lib.hid hpf
  have HPE := Lib.hid hpe
  clear hpf hpe
  go_wp2_with fail
  refine (PerformanceOf_any A2 ys.length cap2 ys sc _ S2.out (by omega)).mono ?_
  rw [HPF.out, HPE.out]
  rintro e w9 ⟨rfl, h2⟩
  have B9 := Lib.hid (Below.via h2 B8.out B8.out.size)
  replace S2 := Lib.hid (S2.out.later h2)
  clear h2
  go_wp2_with fail
  refine (sPerformanceOf_any A2 ys.length cap2 ys sc _ S2.out (by omega)).mono ?_
  rw [HPF.out, HPE.out]
  rintro e w10 ⟨rfl, h2⟩
  have B10 := Lib.hid (Below.via h2 B9.out B9.out.size)
  replace S2 := Lib.hid (S2.out.later h2)
  clear h2
  have HEND : Hid (∀ W : World, Below w.heap.size w W → bad = 0 → a ≠ 4000 → (0 ≤ a ∧ a < 4000) ∧ es + fs = 1000 ∧ ∃ g, exC (a + 1) b = g ∧ exE (a + 1) b = 0 ∧ es ≤ g) := by
    intro W _ hz hne
    have h1 := exE_ok (HBad.out.trans hz)
    have h3 := exC_in h1.1 h1.2
    have h4 := exC_in h1.2 h1.1
    have h5 := exC_in (a := a + 1) (b := b) ⟨by omega, by omega⟩ h1.2
    have h6 := expE_two (a - b)
    have h7 := expE_step (a - b)
    rw [show -(a - b) = b - a by omega] at h6
    rw [show a - b + 1 = a + 1 - b by omega] at h7
    refine ⟨⟨by omega, by omega⟩, ?_, _, rfl, h5.2, ?_⟩
    · rw [← HE.out, ← HF.out, h3.1, h4.1]; exact h6
    · rw [← HE.out, h3.1, h5.1]; exact h7
  have HSUM : Hid (bad = 0 → es + fs = 1000) := by
    intro hz
    have h1 := exE_ok (HBad.out.trans hz)
    have h3 := exC_in h1.1 h1.2
    have h4 := exC_in h1.2 h1.1
    have h6 := expE_two (a - b)
    rw [show -(a - b) = b - a by omega] at h6
    rw [← HE.out, ← HF.out, h3.1, h4.1]; exact h6
  have HESB : Hid (bad = 0 → 0 ≤ es ∧ es ≤ 1000 ∧ 0 ≤ fs ∧ fs ≤ 1000) := by
    intro hz
    have h1 := exE_ok (HBad.out.trans hz)
    have h3 := exC_in h1.1 h1.2
    have h4 := exC_in h1.2 h1.1
    have h6 := expE_bd (a - b)
    have h7 := expE_bd (b - a)
    rw [← HE.out, ← HF.out, h3.1, h4.1]; omega
  have hwe : IntKind.i64.wrap (500 * sc) = 500 * sc := IntWalk.i64_in _ (by omega)
  by_cases hpz : pe = 0
  case pos =>
    obtain ⟨v0, e0, p0, p1, p2, p3, p4⟩ := pf_zero (HPE.out.trans hpz)
    rw [HPF.out] at e0
    subst e0
    subst hpz
    obtain ⟨q1, q2⟩ := su_in p0 p1 p4
    obtain ⟨hr, hhr⟩ : ∃ v, sumE pf ys = v := ⟨_, rfl⟩
    rw [hhr] at p2 q1
    have Q1 := Lib.hid q1
    have Q2 := Lib.hid q2
    have P3 := Lib.hid p3
    have P4 := Lib.hid p4
    clear q1 q2 p3 p4 hhr
    go_wp2_with fail
    refine (SumExpected_any pf A2 ys.length cap2 ys _ S2.out (by omega)).mono ?_
    rw [Q1.out, Q2.out]
    rintro e w11 ⟨rfl, h2⟩
    have B11 := Lib.hid (Below.via h2 B10.out B10.out.size)
    replace S2 := Lib.hid (S2.out.later h2)
    clear h2
    by_cases hpm : pf < 4000
    case pos =>
      have hp5 := P3.out hpm
      obtain ⟨q1, q2⟩ := su_in (r := pf + 1) (by omega) (by omega) P4.out
      obtain ⟨hr2, hhr⟩ : ∃ v, sumE (pf + 1) ys = v := ⟨_, rfl⟩
      rw [hhr] at hp5 q1
      have Q3 := Lib.hid q1
      have Q4 := Lib.hid q2
      clear q1 q2 hhr
      go_wp2_with fail
      refine (SumExpected_any (pf + 1) A2 ys.length cap2 ys _ S2.out (by omega)).mono ?_
      rw [Q3.out, Q4.out]
      rintro e w12 ⟨rfl, h2⟩
      have B12 := Lib.hid (Below.via h2 B11.out B11.out.size)
      clear h2
      have BL : Hid (Below w.heap.size w w12) := B12
      by_cases hbz : bad = 0
      case neg =>
        have hbb : (bad != 0) = true := by rw [bne_iff_ne]; exact hbz
        clear hbz
        go_wp2_with fail
        go_ret
        exact ⟨rfl, BL.out⟩
      case pos =>
        obtain ⟨e1, e2, e3, e4⟩ := HESB.out hbz
        have hsum := HSUM.out hbz
        by_cases ha4 : a = 4000
        case pos =>
          subst ha4
          have HZ := Lib.hid hbz
          subst hbz
          go_wp2_with fail
          go_ret
          exact ⟨rfl, BL.out⟩
        case neg =>
          obtain ⟨hab, _, g, hg, hg2, hge⟩ := HEND.out _ BL.out hbz ha4
          have HG := Lib.hid hg
          have HG2 := Lib.hid hg2
          have hane : (a == 4000) = false := by rw [beq_eq_false_iff_ne]; exact ha4
          have hged : decide (es ≤ g) = true := decide_eq_true hge
          subst hbz
          clear ha4 hg hg2
          go_wp2_with fail
          refine (ExpectedScore_any (a + 1) b _).mono ?_
          rw [HG.out, HG2.out]
          rintro e wz ⟨rfl, h2⟩
          go_wp2_with fail
          go_ret
          exact ⟨rfl, Below.via h2 BL.out BL.out.size⟩
    case neg =>
      obtain rfl : pf = 4000 := by omega
      have BL : Hid (Below w.heap.size w w11) := B11
      by_cases hbz : bad = 0
      case neg =>
        have hbb : (bad != 0) = true := by rw [bne_iff_ne]; exact hbz
        clear hbz
        go_wp2_with fail
        go_ret
        exact ⟨rfl, BL.out⟩
      case pos =>
        obtain ⟨e1, e2, e3, e4⟩ := HESB.out hbz
        have hsum := HSUM.out hbz
        by_cases ha4 : a = 4000
        case pos =>
          subst ha4
          have HZ := Lib.hid hbz
          subst hbz
          go_wp2_with fail
          go_ret
          exact ⟨rfl, BL.out⟩
        case neg =>
          obtain ⟨hab, _, g, hg, hg2, hge⟩ := HEND.out _ BL.out hbz ha4
          have HG := Lib.hid hg
          have HG2 := Lib.hid hg2
          have hane : (a == 4000) = false := by rw [beq_eq_false_iff_ne]; exact ha4
          have hged : decide (es ≤ g) = true := decide_eq_true hge
          subst hbz
          clear ha4 hg hg2
          go_wp2_with fail
          refine (ExpectedScore_any (a + 1) b _).mono ?_
          rw [HG.out, HG2.out]
          rintro e wz ⟨rfl, h2⟩
          go_wp2_with fail
          go_ret
          exact ⟨rfl, Below.via h2 BL.out BL.out.size⟩
  case neg =>
    have hpb : (pe == 0) = false := by rw [beq_eq_false_iff_ne]; exact hpz
    have BL : Hid (Below w.heap.size w w10) := B10
    clear hpz
    by_cases hbz : bad = 0
    case neg =>
      have hbb : (bad != 0) = true := by rw [bne_iff_ne]; exact hbz
      clear hbz
      go_wp2_with fail
      go_ret
      exact ⟨rfl, BL.out⟩
    case pos =>
      obtain ⟨e1, e2, e3, e4⟩ := HESB.out hbz
      have hsum := HSUM.out hbz
      by_cases ha4 : a = 4000
      case pos =>
        subst ha4
        have HZ := Lib.hid hbz
        subst hbz
        go_wp2_with fail
        go_ret
        exact ⟨rfl, BL.out⟩
      case neg =>
        obtain ⟨hab, _, g, hg, hg2, hge⟩ := HEND.out _ BL.out hbz ha4
        have HG := Lib.hid hg
        have HG2 := Lib.hid hg2
        have hane : (a == 4000) = false := by rw [beq_eq_false_iff_ne]; exact ha4
        have hged : decide (es ≤ g) = true := decide_eq_true hge
        subst hbz
        clear ha4 hg hg2
        go_wp2_with fail
        refine (ExpectedScore_any (a + 1) b _).mono ?_
        rw [HG.out, HG2.out]
        rintro e wz ⟨rfl, h2⟩
        go_wp2_with fail
        go_ret
        exact ⟨rfl, Below.via h2 BL.out BL.out.size⟩
end Go.Proofs.Ytaeeijjejkohjaa
