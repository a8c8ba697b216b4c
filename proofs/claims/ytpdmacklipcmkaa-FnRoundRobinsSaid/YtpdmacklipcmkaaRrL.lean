/- FnRoundRobins: the law. No conditions. -/
import Derived.Test.YtpdmacklipcmkaaRrP
import Derived.Test.YtpdmacklipcmkaaRrD
import Derived.Test.YtpdmacklipcmkaaPair2
namespace Go.Proofs.Ytpdmacklipcmkaa
set_option linter.unusedSimpArgs false
set_option linter.unusedVariables false
open Go.RowKit Go.WideShapes

theorem rcE_ok {n : Int} (h : rcE n = 0) : ∃ k : Nat, n = k ∧ 2 ≤ k ∧ k ≤ 12 ∧ rcC n = (rdN k : Int) := by
  unfold rcE at h
  cases q : inB n 2 12
  · rw [q] at h; exact absurd h (by decide)
  · obtain ⟨k, rfl, h1, h2⟩ := nat_of q
    refine ⟨k, rfl, h1, h2, ?_⟩
    rw [rcC, q]; rfl
theorem rr_in {n k : Nat} (h0 : 2 ≤ n) (h1 : n ≤ 12) (hk : k < rdN n) : rrR (n : Int) (k : Int) = (rrS n k n, 0) := by
  have : okR (n : Int) (k : Int) = true := by
    rw [okR, inB_t (by omega) (by omega), Int.toNat_natCast, inB_t (by omega) (by omega)]; rfl
  rw [rrR, if_pos this, Int.toNat_natCast, Int.toNat_natCast]
theorem timesR_step (zs : List Int) (a b x y : Int) (k : Nat) (hx : zs.getD (k * 2) 0 = x) (hy : zs.getD (k * 2 + 1) 0 = y) : timesR zs a b (k + 1) = timesR zs a b k + (if (x = a ∧ y = b) ∨ (x = b ∧ y = a) then 1 else 0) := by rw [timesR, hx, hy]
set_option maxRecDepth 100000 in
set_option maxHeartbeats 8000000 in
theorem fnRoundRobins_walk (A : Option Addr) (n c : Nat) (cs : List Int) (w : World) (hs : Sl w w.heap.size 1 A n (cs.map (Value.int .u8))) (hm : n ≤ 9223372036854775807) (hb : ∀ z ∈ cs, 0 ≤ z ∧ z ≤ 255) :
    Calls Try.prog 3 #[.slice A n c] w fun e w' => e = .returned (.bool true) ∧ Below w.heap.size w w' := by
  obtain ⟨i0, ti, tz0, tz1, tz2⟩ := info_parts info_Meeting'
  have HI := Lib.hid (And.intro ti (And.intro tz0 (And.intro tz1 tz2)))
  clear ti tz0 tz1 tz2
  have HS := Lib.hid hs
  have HB := Lib.hid hb
  clear hs hb
  go_enter Try.func3, Try.ntmps3
  go_wp2_with fail
  refine (f6big_any A n c _).mono ?_
  rintro e w_ ⟨q, rfl, hq, rfl⟩
  cases q
  case true =>
    go_wp2_with fail
    go_ret
    exact ⟨rfl, by (repeat' (first | (with_reducible exact Below.refl _ _) | (with_reducible assumption) | (with_reducible refine Below.alloc ?_ ?_ _) | (with_reducible refine Below.drew ?_) | (with_reducible refine belowDrewN ?_ _) | (with_reducible refine Below.setCell ?_ ?_ _) | (with_reducible refine Below.via (by with_reducible assumption) ?_ ?_) | (with_reducible refine Below.viaD (by with_reducible assumption) ?_ ?_) | (with_reducible exact Below.size (by with_reducible assumption)) | go_size | (with_reducible refine Nat.le_trans ?_ (Below.size (by with_reducible assumption))) | (with_reducible refine Nat.le_trans ?_ (sizeAlloc _ _)) | (with_reducible refine Nat.le_trans ?_ (sizeSet _ _ _)) | (with_reducible refine Nat.le_trans ?_ (sizeDrew _))))⟩
  case false =>
  have hn := hq rfl
  clear hq
  go_wp2_with fail
  refine (DrawRoundRobin_any A n c cs _ HS.out HB.out (by omega)).mono ?_
  rintro e w1 ⟨N, r, rfl, N0, N1, r0, r1, h1⟩
  have B1 := Lib.hid h1
  clear h1
  obtain ⟨L, code, hL⟩ : ∃ L code, rrR N r = (L, code) := ⟨_, _, rfl⟩
  have HL := Lib.hid hL
  obtain ⟨by1, hby⟩ : ∃ v, byeC N r = v := ⟨_, rfl⟩
  obtain ⟨by2, hby2⟩ : ∃ v, byeE N r = v := ⟨_, rfl⟩
  obtain ⟨rc, hrc⟩ : ∃ v, rcC N = v := ⟨_, rfl⟩
  obtain ⟨re, hre⟩ : ∃ v, rcE N = v := ⟨_, rfl⟩
  have HB1 := Lib.hid hby
  have HB2 := Lib.hid hby2
  have HRC := Lib.hid hrc
  have HRE := Lib.hid hre
  clear hL hby hby2 hrc hre
  go_wp2_with fail
  refine (RoundRobin_any N r L code HL.out _).mono ?_
  rintro e w2 ⟨A1, g1, q1, cap1, rfl, hg1, o1, h2⟩
  have O1 := Lib.hid o1
  have B2 := Lib.hid (Below.via h2 B1.out B1.out.size)
  clear o1 h2
  go_wp2_with fail
  refine (sRoundRobin_any N r L code HL.out _).mono ?_
  rintro e w3 ⟨A2, g2, q2, cap2, rfl, hg2, o2, h2⟩
  have B3 := Lib.hid (Below.via h2 B2.out B2.out.size)
  have S1 := Lib.hid (O1.out.later h2).sl
  have S2 := Lib.hid o2.sl
  obtain rfl : q1 = q2 := by have e1 := O1.out.len; have e2 := o2.len; omega
  have hql := o2.len
  have hLl : L.length ≤ 26 := by
    have := HL.out
    unfold rrR at this
    split at this
    · injection this with e1 _
      rw [← e1]
      exact Nat.le_trans (rrS_len _ _ _) (by omega)
    · injection this with e1 _
      rw [← e1]; simp
  clear o2 h2
  go_wp2_with fail
  refine (ByeOf_any N r _).mono ?_
  rw [HB1.out, HB2.out]
  rintro e w_ ⟨rfl, rfl⟩
  go_wp2_with fail
  refine (sByeOf_any N r _).mono ?_
  rw [HB1.out, HB2.out]
  rintro e w_ ⟨rfl, rfl⟩
  go_wp2_with fail
  refine (RoundCount_any N _).mono ?_
  rw [HRC.out, HRE.out]
  rintro e w_ ⟨rfl, rfl⟩
  go_wp2_with fail
  refine (sRoundCount_any N _).mono ?_
  rw [HRC.out, HRE.out]
  rintro e w_ ⟨rfl, rfl⟩
  by_cases hrz : re = 0
  case neg =>
    have hrb : (re != 0) = true := by rw [bne_iff_ne]; exact hrz
    clear hrz
    go_wp2_with (go_at_call 14; (with_reducible refine Calls.mono (f6meetings_same A1 A2 q1 cap1 cap2 L _ S1.out S2.out (by omega)) ?_); rintro e w4 ⟨rfl, h4⟩)
    go_ret
    exact ⟨rfl, Below.via h4 B3.out B3.out.size⟩
  case pos =>
    obtain ⟨k, hNk, hk2, hk12, hrc2⟩ := rcE_ok (HRE.out.trans hrz)
    have hrd := rdN_bd hk2
    rw [HRC.out] at hrc2
    obtain ⟨R, hR⟩ : ∃ R, rdN k = R := ⟨_, rfl⟩
    have HRd := Lib.hid hR
    rw [hR] at hrc2 hrd
    subst hNk
    subst hrc2
    subst hrz
    obtain ⟨hR1, hR2, _⟩ := hrd
    have hR12 : R ≤ 12 := by omega
    have HLEN : Hid (∀ j, j < R → (rrS k j k).length = k / 2 * 2) := fun j hj => rr_len hk2 hk12 (by rw [hR]; exact hj)
    have HRR : Hid (∀ j : Nat, j < R → rrR (k : Nat) (j : Nat) = (rrS k j k, 0)) := fun j hj => rr_in hk2 hk12 (by rw [hR]; exact hj)
    have HALL : Hid (∀ j, j ≤ R → (allR k j).length = k / 2 * j * 2) := fun j hj => allR_len hk2 hk12 j (by rw [hR]; exact hj)
    have HVAL : Hid (validM (k : Nat) (allR k R) = true) := by unfold Hid; rw [← hR]; exact rr_valid hk2 hk12
    have HTIM : Hid (∀ a b : Nat, a < b → b < k → timesR (allR k R) a b (k / 2 * R) = 1) := fun a b h1 h2 => by rw [← hR]; exact rr_times hk2 hk12 h1 h2
    have HFST : Hid (∀ a : Nat, a < k → ((k : Int) - 1) / 2 - 1 ≤ (fstL k (allR k R) (k / 2 * R)).getD a 0 ∧ (fstL k (allR k R) (k / 2 * R)).getD a 0 ≤ (k : Int) / 2 + 1) := fun a h => by rw [← hR]; exact rr_first hk2 hk12 h
    clear hR
    obtain ⟨H, hH⟩ : ∃ H, k / 2 = H := ⟨_, rfl⟩
    rw [hH] at HLEN HALL HTIM HFST
    have hHi : (k : Int) / 2 = (H : Nat) := by omega
    have hHt : (k : Int).tdiv 2 = (H : Nat) := by rw [Int.tdiv_eq_ediv_of_nonneg (by omega)]; exact hHi
    have hH6 : H ≤ 6 := by omega
    have HHI := Lib.hid hHi
    go_wp2_with (go_at_call 14; (with_reducible refine Calls.mono (f6meetings_same A1 A2 q1 cap1 cap2 L _ S1.out S2.out (by omega)) ?_); rintro e w4 ⟨rfl, h4⟩)
    have B4 := Lib.hid (Below.via h4 B3.out B3.out.size)
    have hz4 := B4.out.size
    clear h4
    go_loopw [17, 18] (fun v i wr => ∃ j : Nat, j ≤ R ∧ i = .int .i64 j ∧ wr.ownsRow w.heap.size 34 2 v (H * j) ((allR k j).map (Value.int .i64)) ∧ Below w.heap.size w wr) (fun _ i _ => R - (intOf i).toNat)
    case atStart => exact ⟨0, Nat.zero_le _, rfl, World.ownsRow_made _ _ 0 hz4 (Nat.zero_le _) rfl, by have := B4.out; (repeat' (first | (with_reducible exact Below.refl _ _) | (with_reducible assumption) | (with_reducible refine Below.alloc ?_ ?_ _) | (with_reducible refine Below.drew ?_) | (with_reducible refine belowDrewN ?_ _) | (with_reducible refine Below.setCell ?_ ?_ _) | (with_reducible refine Below.via (by with_reducible assumption) ?_ ?_) | (with_reducible refine Below.viaD (by with_reducible assumption) ?_ ?_) | (with_reducible exact Below.size (by with_reducible assumption)) | go_size | (with_reducible refine Nat.le_trans ?_ (Below.size (by with_reducible assumption))) | (with_reducible refine Nat.le_trans ?_ (sizeAlloc _ _)) | (with_reducible refine Nat.le_trans ?_ (sizeSet _ _ _)) | (with_reducible refine Nat.le_trans ?_ (sizeDrew _))))⟩
    case round =>
      obtain ⟨j, hj, rfl, hown, hbl⟩ := hrel
      have HO := Lib.hid hown
      have HBL := Lib.hid hbl
      have hbs := hbl.size
      clear hown hbl
      by_cases hlt : j < R
      · have hHj : H * j ≤ 72 := Nat.le_trans (Nat.mul_le_mul hH6 (show j ≤ 12 by omega)) (by omega)
        go_wp2_with fail
        refine (RoundRobin_any (k : Nat) (j : Nat) (rrS k j k) 0 (HRR.out j hlt) _).mono ?_
        rintro e w5 ⟨A5, g5, q5, cap5, rfl, hg5, o5, h5⟩
        have hq5 : q5 = H := by have e1 := o5.len; have e2 := HLEN.out j hlt; omega
        subst hq5
        have HSL := Lib.hid o5.sl
        have B5 := Lib.hid (Below.via h5 HBL.out hbs)
        have HO5 := Lib.hid (row_below HO.out h5)
        have hz5 := B5.out.size
        have hne : (((q5 : Nat) : Int) != (q5 : Nat)) = false := by simp
        clear o5 h5
        go_wp2_with (at_builtin; refine wpList_append_sl _ rfl _ _ 26 rfl w.heap.size 34 i0 _ 2 16 Try.underlying26 HI.out.1 HI.out.2.1 HI.out.2.2.1 HI.out.2.2.2 rfl (by decide) _ (q5 * j) ((allR k j).map (Value.int .i64)) rfl HO5.out w5.heap.size A5 q5 cap5 ((rrS k j k).map (Value.int .i64)) rfl HSL.out ?c1 ?c2 ?c3 ?c4 ?_)
        case c1 => intro u hu; rw [List.mem_map] at hu; obtain ⟨b, _, rfl⟩ := hu; rfl
        case c2 => unfold maxLen; omega
        case c3 => omega
        case c4 => exact hz5
        intro v' w6 hown6 hg6 _
        have hbn : Below w.heap.size w w6 := below_app B5.out HO5.out hg6 (Nat.le_refl _) hz5
        have HO6 := Lib.hid hown6
        clear hown6 hg6
        go_wp2_with fail
        go_roundw
        case rel => exact ⟨j + 1, by omega, by go_num, by rw [allR, List.map_append, Nat.mul_succ]; exact HO6.out, hbn⟩
        case measure => first | (simp [intOf]; done) | (simp [intOf]; omega)
      · obtain rfl : R = j := by omega
        obtain ⟨C, hC⟩ : ∃ C, H * R = C := ⟨_, rfl⟩
        rw [hC] at HO HTIM HFST
        have hC72 : C ≤ 72 := by rw [← hC]; exact Nat.le_trans (Nat.mul_le_mul hH6 hR12) (by omega)
        have HCC := Lib.hid hC
        have hrow := HO.out
        obtain ⟨A', g, cap, rfl, hg, hnc, hcm, ho⟩ := own_of_row hrow
        have HSL := Lib.hid ho.sl
        clear hrow ho hC
        go_wp2_with fail
        refine (ValidMeetings_any (k : Nat) A' C cap (allR k R) _ HSL.out (by omega)).mono ?_
        rw [HVAL.out]
        rintro e w5 ⟨rfl, h5⟩
        have B5 := Lib.hid (Below.via h5 HBL.out hbs)
        replace HSL := Lib.hid (HSL.out.later h5)
        clear h5
        go_wp2_with fail
        go_loopw [21] (fun a wr => ∃ p : Nat, p ≤ k ∧ a = .int .i64 p ∧ wr = w5) (fun a _ => k - (intOf a).toNat)
        case atStart => exact ⟨0, Nat.zero_le _, rfl, rfl⟩
        case round =>
          obtain ⟨p, hp, rfl, rfl⟩ := hrel
          by_cases hplt : p < k
          · go_wp2_with fail
            go_loopw [22] (fun b wr2 => ∃ q : Nat, q ≤ k ∧ p + 1 ≤ q ∧ b = .int .i64 q ∧ wr2 = wr) (fun b _ => k - (intOf b).toNat)
            case atStart => exact ⟨p + 1, by omega, Nat.le_refl _, by go_num, rfl⟩
            case round =>
              obtain ⟨q, hq, hpq, rfl, rfl⟩ := hrel
              by_cases hqlt : q < k
              · go_wp2_with fail
                go_loopw [23, 24] (fun t i wr3 => ∃ d : Nat, d ≤ C ∧ i = .int .i64 d ∧ t = .int .i64 (timesR (allR k R) p q d : Nat) ∧ wr3 = wr) (fun _ i _ => C - (intOf i).toNat)
                case atStart => exact ⟨0, Nat.zero_le _, rfl, rfl, rfl⟩
                case round =>
                  obtain ⟨d, hd, rfl, rfl, rfl⟩ := hrel
                  by_cases hdlt : d < C
                  · obtain ⟨bb, off, rfl, hbb, hll, hcc⟩ := HSL.out.cellAt hdlt
                    have c0 := hcc 0 (by omega)
                    have c1 := hcc 1 (by omega)
                    rw [Nat.add_zero] at c0
                    rw [← Nat.add_assoc] at c1
                    obtain ⟨x, hx⟩ : ∃ x, (allR k R).getD (d * 2) 0 = x := ⟨_, rfl⟩
                    obtain ⟨y, hy⟩ : ∃ x, (allR k R).getD (d * 2 + 1) 0 = x := ⟨_, rfl⟩
                    have HT := Lib.hid (timesR_step (allR k R) p q x y d hx hy)
                    have htl := timesR_le (allR k R) p q d
                    rw [hx] at c0
                    rw [hy] at c1
                    obtain ⟨t0, ht0⟩ : ∃ t, timesR (allR k R) p q d = t := ⟨_, rfl⟩
                    rw [ht0] at htl HT
                    rw [ht0]
                    clear hx hy hcc hll ht0
                    obtain ⟨b1, hb1⟩ : ∃ b, (x == ((p : Nat) : Int)) = b := ⟨_, rfl⟩
                    obtain ⟨b2, hb2⟩ : ∃ b, (y == ((q : Nat) : Int)) = b := ⟨_, rfl⟩
                    obtain ⟨b3, hb3⟩ : ∃ b, (x == ((q : Nat) : Int)) = b := ⟨_, rfl⟩
                    obtain ⟨b4, hb4⟩ : ∃ b, (y == ((p : Nat) : Int)) = b := ⟨_, rfl⟩
                    have HT2 : Hid (timesR (allR k R) p q (d + 1) = t0 + (if (b1 && b2 || b3 && b4) = true then 1 else 0)) := by
                      unfold Hid
                      rw [HT.out, ← hb1, ← hb2, ← hb3, ← hb4]
                      simp only [Bool.or_eq_true, Bool.and_eq_true, beq_iff_eq]
                    clear HT
                    cases b1 <;> cases b2 <;> cases b3 <;> cases b4
                    all_goals
                      go_wp2_with fail
                      go_roundw
                      case rel => exact ⟨d + 1, by omega, by go_num, by rw [HT2.out]; simp; try go_num, by first | rfl | trivial⟩
                      case measure => first | (simp [intOf]; done) | (simp [intOf]; omega)
                  · obtain rfl : C = d := by omega
                    rw [HTIM.out p q (by omega) hqlt]
                    go_wp2_with fail
                    go_roundw
                    case rel => exact ⟨q + 1, by omega, by omega, by go_num, by first | rfl | trivial⟩
                    case measure => first | (simp [intOf]; done) | (simp [intOf]; omega)
              · obtain rfl : k = q := by omega
                go_wp2_with fail
                go_roundw
                case rel => exact ⟨p + 1, by omega, by go_num, by first | rfl | trivial⟩
                case measure => first | (simp [intOf]; done) | (simp [intOf]; omega)
          · obtain rfl : k = p := by omega
            go_wp2_with fail
            refine (FirstsOf_any (k : Nat) A' C cap (allR k R) _ HSL.out (by omega)).mono ?_
            rintro e w7 ⟨A7, g7, q7, rfl, hg7, o7, hq7, h7⟩
            have HF := Lib.hid (fst_yes (c := C) HVAL.out)
            rw [HF.out.2]
            rw [HF.out.1] at o7
            obtain ⟨F, hF⟩ : ∃ F, fstL k (allR k R) C = F := ⟨_, rfl⟩
            have hFl : F.length = k := by rw [← hF]; exact fstL_len _ _ _
            rw [hF] at HFST o7
            have hq7k : q7 = k := by have e1 := o7.len; omega
            subst hq7k
            have B7 := Lib.hid (Below.via h7 B5.out B5.out.size)
            have HSF := Lib.hid o7.sl
            clear o7 h7 hF HF
            have hk1 : ((q7 : Int) - 1).tdiv 2 = ((q7 : Int) - 1) / 2 := Int.tdiv_eq_ediv_of_nonneg (by omega)
            obtain ⟨lo, hlo⟩ : ∃ v, ((q7 : Int) - 1) / 2 = v := ⟨_, rfl⟩
            rw [hlo] at hk1 HFST
            have hlo2 : 0 ≤ lo ∧ lo ≤ 6 := by omega
            go_wp2_with fail
            go_loopw [27] (fun a wr3 => ∃ p2 : Nat, p2 ≤ q7 ∧ a = .int .i64 p2 ∧ wr3 = w7) (fun a _ => q7 - (intOf a).toNat)
            case atStart => exact ⟨0, Nat.zero_le _, rfl, rfl⟩
            case round =>
              obtain ⟨p2, hp2, rfl, rfl⟩ := hrel
              by_cases hplt2 : p2 < q7
              · obtain ⟨b7, o7, x, rfl, hb7, hx, c0⟩ := HSF.out.int hplt2
                have hf := HFST.out p2 hplt2
                rw [hx.out] at hf
                rw [HHI.out] at hf
                have hd1 : decide (x < lo - 1) = false := decide_eq_false (by omega)
                have hd2 : decide (((H : Nat) : Int) + 1 < x) = false := decide_eq_false (by omega)
                go_wp2_with fail
                go_roundw
                case rel => exact ⟨p2 + 1, by omega, by go_num, by first | rfl | trivial⟩
                case measure => first | (simp [intOf]; done) | (simp [intOf]; omega)
              · obtain rfl : q7 = p2 := by omega
                go_wp2_with fail
                go_ret
                exact ⟨rfl, B7.out⟩
end Go.Proofs.Ytpdmacklipcmkaa
