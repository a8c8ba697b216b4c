/- FnPaired: the law. No conditions. -/
import Derived.Test.YteeplmnjipddaaaPpd1
import Derived.Test.YteeplmnjipddaaaPpd2
import Derived.Test.YteeplmnjipddaaaPr5
import Derived.Deep.DeepCutAuto
namespace Go.Proofs.Yteeplmnjipddaaa
set_option linter.unusedSimpArgs false
set_option linter.unusedVariables false
open Go.RowKit Go.WideShapes

theorem info_bool9 : (Try.prog.info? 4).map (fun i => (i.zero, i.size, i.bytes)) = some (some (.bool false), 1, 1) := by kernel_rfl
theorem seen_zero (l : List Int) (n : Nat) : madeCells (Value.bool false).cells (n * 1) = (seenA l n 0).toArray := by
  show madeCells #[Value.bool false] (n * 1) = _
  rw [made_one, Nat.mul_one]; rfl
theorem key_bool : ∀ p1 p2 p3 p4 : Bool, ((p1 && p2) || (p3 && p4)) = false → (p1 = false ∨ p2 = false) ∧ (p3 = false ∨ p4 = false) := by decide
theorem pbR_le' {pts zs : List Int} {n c : Nat} {l : List Int} {q : Nat} {code : Int} (h : pbR pts zs n c = (l, q, code)) : q ≤ n := by
  unfold pbR at h
  split at h <;> (try split at h) <;> (injection h with h1 h2; injection h2 with h2 h3; omega)
set_option maxRecDepth 20000 in
set_option maxHeartbeats 4000000 in
theorem fnPaired_walk (A : Option Addr) (n c : Nat) (cs : List Int) (w : World) (hs : Sl w w.heap.size 1 A n (cs.map (Value.int .u8))) (hm : n ≤ 9223372036854775807) (hb : ∀ z ∈ cs, 0 ≤ z ∧ z ≤ 255) :
    Calls Try.prog 5 #[.slice A n c] w fun e w' => e = .returned (.bool true) ∧ Below w.heap.size w w' := by
  obtain ⟨i0, hi, hz0, hz1, hz2⟩ := info_parts info_bool9
  have HI := Lib.hid (And.intro hi (And.intro hz0 (And.intro hz1 hz2)))
  clear hi hz0 hz1 hz2
  have HS := Lib.hid hs
  have HB := Lib.hid hb
  clear hs hb
  go_enter Try.func5, Try.ntmps5
  go_wp2_with fail
  refine (f6big_any A n c _).mono ?_
  rintro e w_ ⟨q, rfl, hq, rfl⟩
  cases q
  case true =>
    go_wp2_with fail
    go_ret
    exact ⟨rfl, by (repeat' (first | (with_reducible exact Below.refl _ _) | (with_reducible assumption) | (with_reducible refine Below.alloc ?_ ?_ _) | (with_reducible refine Below.drew ?_) | (with_reducible refine belowDrewN ?_ _) | (with_reducible refine Below.setCell ?_ ?_ _) | (with_reducible refine Below.via (by with_reducible assumption) ?_ ?_) | (with_reducible refine Below.viaD (by with_reducible assumption) ?_ ?_) | (with_reducible exact Below.size (by with_reducible assumption)) | go_size | (with_reducible refine Nat.le_trans ?_ (Below.size (by with_reducible assumption))) | (with_reducible refine Nat.le_trans ?_ (sizeAlloc _ _)) | (with_reducible refine Nat.le_trans ?_ (sizeSet _ _ _)) | (with_reducible refine Nat.le_trans ?_ (sizeDrew _))))⟩
  case false =>
  have hn := hq rfl
  clear hq
  go_wp2_with fail
  refine (DrawPairByPoints_any A n c cs _ HS.out HB.out (by omega)).mono ?_
  rintro e w1 ⟨N, v1, v2, j, pts, zs, rfl, hN, hj, hr1, hr2, h1⟩
  obtain ⟨A1, gg1, cp1, rfl, _, hc1, hm1, o1⟩ := own_of_row hr1
  obtain ⟨A2, gg2, cp2, rfl, _, hc2, hm2, o2⟩ := own_of_row hr2
  have S1 := Lib.hid o1.sl
  have S2 := Lib.hid o2.sl
  have B1 := Lib.hid h1
  clear h1 hr1 hr2 o1 o2
  obtain ⟨l, qc⟩ : ∃ x, pbR pts zs N j = x := ⟨_, rfl⟩
  obtain ⟨l, q, code⟩ := l
  obtain ⟨v, code2, h2⟩ : ∃ x y, plR N zs j = (x, y) := ⟨_, _, rfl⟩
  have HR := Lib.hid qc
  have HP := Lib.hid h2
  have HW := Lib.hid (pbR_ways qc h2)
  clear qc h2
  go_wp2_with fail
  refine (PairByPoints_any A1 N cp1 pts A2 j cp2 zs _ S1.out S2.out (by omega) (by omega) l q code HR.out).mono ?_
  rintro e w2 ⟨A0, g0, q0, rfl, hg0, o0, b2⟩
  have B2 := Lib.hid (Below.via b2 B1.out B1.out.size)
  have O0 := Lib.hid o0
  have T1 := Lib.hid (S1.out.later b2)
  have T2 := Lib.hid (S2.out.later b2)
  clear o0 b2 S1 S2
  go_wp2_with fail
  refine (sPairByPoints_any A1 N cp1 pts A2 j cp2 zs _ T1.out T2.out (by omega) (by omega) l q code HR.out).mono ?_
  rintro e w3 ⟨A3, g3, q3, rfl, hg3, o3, b3⟩
  have B3 := Lib.hid (Below.via b3 B2.out B2.out.size)
  have O1 := Lib.hid (O0.out.later b3)
  have O3 := Lib.hid o3
  have U2 := Lib.hid (T2.out.later b3)
  clear o3 b3 T1 T2
  go_wp2_with fail
  refine (PairingsLeft_any N A2 j cp2 zs _ U2.out (by omega) v code2 HP.out).mono ?_
  rintro e w4 ⟨rfl, b4⟩
  have B4 := Lib.hid (Below.via b4 B3.out B3.out.size)
  have P1 := Lib.hid (O1.out.later b4)
  have P3 := Lib.hid (O3.out.later b4)
  have V2 := Lib.hid (U2.out.later b4)
  clear b4 U2 O1 O3
  go_wp2_with fail
  refine (sPairingsLeft_any N A2 j cp2 zs _ V2.out (by omega) v code2 HP.out).mono ?_
  rintro e w5 ⟨rfl, b5⟩
  have B5 := Lib.hid (Below.via b5 B4.out B4.out.size)
  have Q1 := Lib.hid (P1.out.later b5).sl
  have Q3 := Lib.hid (P3.out.later b5).sl
  have W2 := Lib.hid (V2.out.later b5)
  clear b5 V2 P1 P3
  have hqN := pbR_le' HR.out
  have e1 : (code != code) = false := by rw [bne, beq_self_eq_true]; rfl
  have e2 : (code2 != code2) = false := by rw [bne, beq_self_eq_true]; rfl
  have e3 : (v != v) = false := by rw [bne, beq_self_eq_true]; rfl
  go_upto_region 11 with (go_at_call 27; (with_reducible refine Calls.mono (f6meetings_same A0 A3 q q0 q3 l _ Q1.out Q3.out (by omega)) ?_); rintro e w7 ⟨rfl, h7⟩)
  go_cut [4, 5, 6, 7, 78] (fun s4 s5 s6 s7 s78 wx => s4 = .slice A2 j cp2 ∧ s5 = .int .i64 (N : Nat) ∧ s6 = .slice A0 q q0 ∧ s7 = .int .i64 code ∧ s78 = .bool false ∧ wx = w7)
  case first =>
    by_cases hk2 : code2 = 0
    · subst hk2
      by_cases hcode : code = 0
      · subst hcode
        have hd : decide (0 < v) = true := by have h := HW.out rfl; rw [h]; rfl
        go_wp2_with fail
        go_meet
        exact ⟨rfl, rfl, rfl, rfl, rfl, rfl⟩
      · have hd : decide (0 < v) = false := by have h := HW.out rfl; rw [h]; exact beq_eq_false_iff_ne.mpr hcode
        have hcb : (code == 0) = false := beq_eq_false_iff_ne.mpr hcode
        go_wp2_with fail
        go_meet
        exact ⟨rfl, rfl, rfl, rfl, rfl, rfl⟩
    · have hk3 : (code2 == 0) = false := beq_eq_false_iff_ne.mpr hk2
      go_wp2_with fail
      go_meet
      exact ⟨rfl, rfl, rfl, rfl, rfl, rfl⟩
  case rest =>
  obtain ⟨rfl, rfl, rfl, rfl, rfl, rfl⟩ := hcut
  rename World => w7
  by_cases hcode : code = 0
  case neg =>
    have hcb : (code == 0) = false := beq_eq_false_iff_ne.mpr hcode
    have hcn : (code != 0) = true := by rw [bne_iff_ne]; exact hcode
    clear hcode
    go_wp2_with fail
    go_ret
    exact ⟨rfl, Below.via h7 B5.out B5.out.size⟩
  case pos =>
    subst hcode
    obtain ⟨hq, hF⟩ := pbR_ok HR.out
    have HF := Lib.hid hF
    have HQ := Lib.hid hq
    have hdiv : ((N : Int)).tdiv 2 = (q : Nat) := by rw [Int.tdiv_eq_ediv_of_nonneg (by omega)]; omega
    have hfin : (((q : Nat) : Int) == (q : Nat)) = true := beq_self_eq_true _
    clear hq hF
    have hmk := fun W => run_makeN (P := Try.prog) 50 4 i0 (.bool false) Try.underlying50 HI.out.1 HI.out.2.1 .i64 .i64 N N (Nat.le_refl _) (by rw [HI.out.2.2.2]; omega) (by omega) W
    rw [HI.out.2.2.1, seen_zero l N] at hmk
    go_wp2_with fail
    have B7 := Lib.hid (Below.via h7 B5.out B5.out.size)
    have R1 := Lib.hid (Q1.out.later h7)
    have R2 := Lib.hid (W2.out.later h7)
    clear h7 hmk Q1 Q3 W2
    go_loopw [15] (fun i wr => ∃ k : Nat, k ≤ q ∧ i = .int .i64 k ∧ Blk wr w7.heap.size 4 (seenA l N k).toArray ∧ Below w7.heap.size w7 wr) (fun i _ => q - (intOf i).toNat)
    case atStart => exact ⟨0, Nat.zero_le _, rfl, Blk.new _ _ _, by (repeat' (first | (with_reducible exact Below.refl _ _) | (with_reducible assumption) | (with_reducible refine Below.alloc ?_ ?_ _) | (with_reducible refine Below.drew ?_) | (with_reducible refine belowDrewN ?_ _) | (with_reducible refine Below.setCell ?_ ?_ _) | (with_reducible refine Below.via (by with_reducible assumption) ?_ ?_) | (with_reducible refine Below.viaD (by with_reducible assumption) ?_ ?_) | (with_reducible exact Below.size (by with_reducible assumption)) | go_size | (with_reducible refine Nat.le_trans ?_ (Below.size (by with_reducible assumption))) | (with_reducible refine Nat.le_trans ?_ (sizeAlloc _ _)) | (with_reducible refine Nat.le_trans ?_ (sizeSet _ _ _)) | (with_reducible refine Nat.le_trans ?_ (sizeDrew _))))⟩
    case round =>
      obtain ⟨k, hk, rfl, hbk, hbl⟩ := hrel
      rename World => wo
      have HBK := Lib.hid hbk
      have HBL := Lib.hid hbl
      have hgl := hbk.lt
      by_cases hlt : k < q
      · obtain ⟨a, b, ha, hb, han, hbn, hab, hmet, hno⟩ := HF.out.at' k hlt
        obtain ⟨bp, op, rfl, hbp, -, hcp⟩ := (R1.out.below hbl).cellAt hlt
        have c0 := hcp 0 (by omega)
        have c1 := hcp 1 (by omega)
        rw [Nat.add_zero, ha] at c0
        rw [← Nat.add_assoc, hb] at c1
        have s0 := (hbk.cell a).trans ((List.getElem?_toArray).trans (seenA_no han k (fun i hi => (hno i hi).1)))
        have s1 := (hbk.cell b).trans ((List.getElem?_toArray).trans (seenA_no hbn k (fun i hi => (hno i hi).2)))
        have f0 := hbk.free a
        have f1 := hbk.free b
        have HAT := Lib.hid (seenA_at (n := N) ha hb)
        have HM := Lib.hid hmet
        have hab2 : (a : Nat) ≠ b := hab
        clear ha hb hno hmet hbk hbl hcp
        go_wp2_with fail
        go_loopw [17] (fun i wr => ∃ m : Nat, m ≤ j ∧ i = .int .i64 m ∧ Blk wr w7.heap.size 4 (seenA l N (k + 1)).toArray ∧ wr.cell? ⟨wo.heap.size, 0, none⟩ = some (.int .i64 a) ∧ wr.cell? ⟨wo.heap.size, 1, none⟩ = some (.int .i64 b) ∧ Below w7.heap.size w7 wr) (fun i _ => j - (intOf i).toNat)
        case atStart =>
          refine ⟨0, Nat.zero_le _, rfl, ?_, ?_, ?_, ?_⟩
          · rw [HAT.out]; exact ((HBK.out.set _ _).set _ _).later (Below.alloc (Below.refl _ _) (Nat.le_refl _) _)
          · go_simp
          · go_simp
          · have HBLo := HBL.out; (repeat' (first | (with_reducible exact Below.refl _ _) | (with_reducible assumption) | (with_reducible refine Below.alloc ?_ ?_ _) | (with_reducible refine Below.drew ?_) | (with_reducible refine belowDrewN ?_ _) | (with_reducible refine Below.setCell ?_ ?_ _) | (with_reducible refine Below.via (by with_reducible assumption) ?_ ?_) | (with_reducible refine Below.viaD (by with_reducible assumption) ?_ ?_) | (with_reducible exact Below.size (by with_reducible assumption)) | go_size | (with_reducible refine Nat.le_trans ?_ (Below.size (by with_reducible assumption))) | (with_reducible refine Nat.le_trans ?_ (sizeAlloc _ _)) | (with_reducible refine Nat.le_trans ?_ (sizeSet _ _ _)) | (with_reducible refine Nat.le_trans ?_ (sizeDrew _))))
        case round =>
          obtain ⟨m, hm, rfl, hbk2, p0, p1, hbl2⟩ := hrel
          have HBK2 := Lib.hid hbk2
          have HBL2 := Lib.hid hbl2
          have hpl := cell_lt p0
          by_cases hlm : m < j
          · obtain ⟨bm, om, rfl, hbm, -, hcm⟩ := (R2.out.below hbl2).cellAt hlm
            have HN := metB_no HM.out hlm
            have d0 := hcm 0 (by omega)
            have d1 := hcm 1 (by omega)
            rw [Nat.add_zero] at d0
            rw [← Nat.add_assoc] at d1
            revert HN d0 d1
            generalize zs.getD (m * 2) 0 = x
            generalize zs.getD (m * 2 + 1) 0 = y
            intro HN d0 d1
            have HNO := Lib.hid HN
            clear HN hcm hbk2 hbl2
            obtain ⟨K1, K2⟩ := key_bool _ _ _ _ HNO.out
            have HK1 := Lib.hid K1
            have HK2 := Lib.hid K2
            clear K1 K2
            (try clear HF); (try clear HQ); (try clear hdiv); (try clear hfin); (try clear HI); (try clear HS); (try clear HB); (try clear B1); (try clear B2); (try clear B3); (try clear B4); (try clear B5); (try clear B7); (try clear HR); (try clear HP); (try clear HW); (try clear R1); (try clear R2); (try clear e1); (try clear e2); (try clear e3); (try clear hqN); (try clear HAT); (try clear HM); (try clear HBL); (try clear HBK); (try clear hgl); (try clear hab2); (try clear s0); (try clear s1); (try clear f0); (try clear f1); (try clear c0); (try clear c1); (try clear hbp); (try clear hbm); (try clear hN); (try clear han); (try clear hbn); (try clear hgg); (try clear hd); (try clear hcode); (try clear hcut); (try clear hpl)
            cases h1 : (x == (a : Int))
            all_goals cases h3 : (x == (b : Int))
            all_goals try (have h2 : (y == (b : Int)) = false := HK1.out.resolve_left (by rw [h1]; decide))
            all_goals try (have h4 : (y == (a : Int)) = false := HK2.out.resolve_left (by rw [h3]; decide))
            all_goals
              go_wp2_with fail
              first | (refine wp_region_quiet_lit (by kernel_rfl) (by kernel_rfl) ?_; refine WQ.of ?_; (repeat (refine WQ.step (fun K hK => ?_); go_simp; first | (refine hK _ ?_; clear hK K) | (apply Exists.intro; refine ⟨fun _ => ?_, hK _ ?_⟩; (fail); clear hK K))); refine WQ.nil ?_; intro _ hw'; obtain ⟨nq, hw''⟩ := hw'; subst hw'') | go_quiet (fail)
              go_wp2_with fail
              go_roundw
              case rel => exact ⟨m + 1, by omega, by go_num, HBK2.out.later (belowDrewN (Below.refl _ _) _), p0, p1, belowDrewN HBL2.out _⟩
              case measure => first | (simp [intOf]; done) | (simp [intOf]; omega)
          · obtain rfl : m = j := by omega
            clear hbk2 hbl2
            go_wp2_with fail
            go_roundw
            case rel => exact ⟨k + 1, by omega, by go_num, HBK2.out, HBL2.out⟩
            case measure => first | (simp [intOf]; done) | (simp [intOf]; omega)
      · obtain rfl : k = q := by omega
        clear hbk hbl
        go_wp2_with fail
        go_ret
        exact ⟨rfl, Below.via HBL.out B7.out B7.out.size⟩
end Go.Proofs.Yteeplmnjipddaaa
