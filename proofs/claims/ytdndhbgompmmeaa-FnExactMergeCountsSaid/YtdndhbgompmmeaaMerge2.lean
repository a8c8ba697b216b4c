/- MergeCounts of the reference. Conditions: lengths below 2^20. -/
import Derived.Test.YtdndhbgompmmeaaMerge
namespace Go.Proofs.Ytdndhbgompmmeaa
set_option linter.unusedSimpArgs false
set_option linter.unusedVariables false
open Go.RowKit

set_option maxRecDepth 100000 in
set_option maxHeartbeats 4000000 in
theorem sMergeCounts_any (A : Option Addr) (n c : Nat) (pss : List (List Int)) (w : World) (hs : Sl2 w w.heap.size A n pss) (hn : n + sumLen pss n ≤ 1048576) (L : List Int) (code : Int) (hr : mgR pss n = (L, code)) :
    Calls Try.prog 15 #[.slice A n c] w (MgPost Try.prog L code w) := by
  by_cases h0 : n = 0
  · subst h0
    rw [mgR, if_pos rfl] at hr
    obtain ⟨rfl, rfl⟩ := pairI hr
    go_enter Try.func15, Try.ntmps15
    go_wp2
    go_ret2
    exact ⟨none, w.heap.size, 0, 0, rfl, Nat.le_refl _, own_none _ _ _ _ _, by omega, by (repeat' (first | (with_reducible exact Below.refl _ _) | (with_reducible assumption) | (with_reducible refine Below.alloc ?_ ?_ _) | (with_reducible refine Below.drew ?_) | (with_reducible refine belowDrewN ?_ _) | (with_reducible refine Below.setCell ?_ ?_ _) | (with_reducible refine Below.via (by with_reducible assumption) ?_ ?_) | (with_reducible exact Below.size (by with_reducible assumption)) | go_size | (with_reducible refine Nat.le_trans ?_ (Below.size (by with_reducible assumption))) | (with_reducible refine Nat.le_trans ?_ (sizeAlloc _ _)) | (with_reducible refine Nat.le_trans ?_ (sizeSet _ _ _)) | (with_reducible refine Nat.le_trans ?_ (sizeDrew _))))⟩
  have hn0 : 0 < n := by omega
  have hn00 : (((n : Nat) : Int) == 0) = false := by rw [beq_eq_false_iff_ne]; omega
  have HR := Lib.hid hr
  clear hr h0
  obtain ⟨b, off, l0, A0, m, c0, rfl, hb, HL0, hc0, hsl0, _⟩ := hs.row hn0
  have hm2 : m ≤ 1048576 := by have h5 := sumLen_each pss hn0; rw [HL0.out, hsl0.ints] at h5; omega
  have HM : Hid ((pss.getD 0 []).length = m) := by unfold Hid; rw [HL0.out, hsl0.ints]
  obtain ⟨i0, hi, hz0, hz1, hz2⟩ := info_parts info_int64
  have hmk := fun W => run_makeN (P := Try.prog) 26 2 i0 (.int .i64 0) Try.underlying26 hi hz0 .i64 .i64 m m (Nat.le_refl _) (by rw [hz2]; omega) (by omega) W
  rw [hz1, Nat.mul_one] at hmk
  rw [Nat.add_zero] at hc0
  clear hi hz0 hz1 hz2 hsl0 HL0
  have HS := Lib.hid hs
  have HPL := Lib.hid hs.len
  clear hs
  go_enter Try.func15, Try.ntmps15
  go_wp2
  go_loopw [5] (fun i wr => ∃ k : Nat, k ≤ n ∧ i = .int .i64 k ∧ Hid (∀ j, j < k → mgOk1 m (pss.getD j []) = true) ∧ Blk wr w.heap.size 2 ((rowMix pss m k 0).map (Value.int .i64)).toArray ∧ Below w.heap.size w wr) (fun i _ => n - (intOf i).toNat)
  case atStart =>
    refine ⟨0, Nat.zero_le _, rfl, fun j hj => absurd hj (by omega), ?_, by (repeat' (first | (with_reducible exact Below.refl _ _) | (with_reducible assumption) | (with_reducible refine Below.alloc ?_ ?_ _) | (with_reducible refine Below.drew ?_) | (with_reducible refine belowDrewN ?_ _) | (with_reducible refine Below.setCell ?_ ?_ _) | (with_reducible refine Below.via (by with_reducible assumption) ?_ ?_) | (with_reducible exact Below.size (by with_reducible assumption)) | go_size | (with_reducible refine Nat.le_trans ?_ (Below.size (by with_reducible assumption))) | (with_reducible refine Nat.le_trans ?_ (sizeAlloc _ _)) | (with_reducible refine Nat.le_trans ?_ (sizeSet _ _ _)) | (with_reducible refine Nat.le_trans ?_ (sizeDrew _))))⟩
    rw [rowMix_zero, List.map_replicate, ← made_one]
    exact Blk.new _ _ _
  case round =>
    obtain ⟨k, hk, rfl, hpre, hblk, hbl⟩ := hrel
    by_cases hlt : k < n
    · obtain ⟨b', off', l, B1, m1, c1, e, hb', HL, hc1, hsl, _⟩ := (HS.out.below hbl).row hlt
      injection e with e
      injection e with e1 e2 _
      subst e1 e2
      have HLM := Lib.hid hsl.ints
      have hcw : w.cell? ⟨b, off + k, none⟩ = some (.slice B1 m1 c1) := (hbl.cell (p := ⟨b, off + k, none⟩) hb').symm.trans hc1
      have HSW : Hid (Sl w w.heap.size 1 B1 m1 (l.map (Value.int .i64))) := by
        obtain ⟨_, _, l2, B2, m2, c2, e, _, HL2, hc2, hsl2, _⟩ := HS.out.row hlt
        injection e with e
        injection e with e1 e2 _
        subst e1 e2
        rw [hcw] at hc2
        injection hc2 with h7
        injection h7 with h71 h72 _
        subst h71 h72
        rw [← HL.out, HL2.out]
        exact hsl2
      have HCW := Lib.hid hcw
      clear hsl hcw
      by_cases hmm : m1 = m
      case neg =>
        have hE : Hid (mgR pss n = ([], 1)) := mgR_bad HPL.out hlt (by rw [HM.out, HL.out]; exact mgOk1_f1 (by rw [HLM.out]; exact hmm))
        obtain ⟨rfl, rfl⟩ := pairI (HR.out.symm.trans hE.out)
        go_wp2_with fail
        go_ret2
        exact ⟨none, w.heap.size, 0, 0, rfl, Nat.le_refl _, own_none _ _ _ _ _, by omega, by (repeat' (first | (with_reducible exact Below.refl _ _) | (with_reducible assumption) | (with_reducible refine Below.alloc ?_ ?_ _) | (with_reducible refine Below.drew ?_) | (with_reducible refine belowDrewN ?_ _) | (with_reducible refine Below.setCell ?_ ?_ _) | (with_reducible refine Below.via (by with_reducible assumption) ?_ ?_) | (with_reducible exact Below.size (by with_reducible assumption)) | go_size | (with_reducible refine Nat.le_trans ?_ (Below.size (by with_reducible assumption))) | (with_reducible refine Nat.le_trans ?_ (sizeAlloc _ _)) | (with_reducible refine Nat.le_trans ?_ (sizeSet _ _ _)) | (with_reducible refine Nat.le_trans ?_ (sizeDrew _))))⟩
      case pos =>
        subst hmm
        have HB0 := Lib.hid hblk
        have HBL := Lib.hid hbl
        clear hblk
        go_wp2_with fail
        clear hbl hc1
        go_loopw [6] (fun i wr => ∃ t : Nat, t ≤ m1 ∧ i = .int .i64 t ∧ Hid (∀ j, j < t → inB (l.getD j 0) 0 3000 = true) ∧ Blk wr w.heap.size 2 ((rowMix pss m1 k t).map (Value.int .i64)).toArray ∧ Below w.heap.size w wr) (fun i _ => m1 - (intOf i).toNat)
        case atStart => exact ⟨0, Nat.zero_le _, rfl, fun j hj => absurd hj (by omega), HB0.out, HBL.out⟩
        case round =>
          obtain ⟨t, ht, rfl, hpre2, hblk, hbl⟩ := hrel
          by_cases hlt2 : t < m1
          · obtain ⟨b2, off2, z, rfl, hb2, HZ, hc2⟩ := (HSW.out.below hbl).int hlt2
            have hc1 := (hbl.cell (p := ⟨b, off + k, none⟩) hb').trans HCW.out
            cases q : inB z 0 3000
            case false =>
              have hE : Hid (mgR pss n = ([], 1)) := mgR_bad HPL.out hlt (by rw [HM.out, HL.out]; exact mgOk1_f2 (t := t) (by rw [HLM.out]; exact hlt2) (by rw [HZ.out]; exact q))
              obtain ⟨rfl, rfl⟩ := pairI (HR.out.symm.trans hE.out)
              go_wp2_with (go_at_call 56; refine (l00In_any _ _ _ _).mono ?_; rintro e w_ ⟨rfl, rfl⟩)
              go_ret2
              exact ⟨none, w.heap.size, 0, 0, rfl, Nat.le_refl _, own_none _ _ _ _ _, by omega, by (repeat' (first | (with_reducible exact Below.refl _ _) | (with_reducible assumption) | (with_reducible refine Below.alloc ?_ ?_ _) | (with_reducible refine Below.drew ?_) | (with_reducible refine belowDrewN ?_ _) | (with_reducible refine Below.setCell ?_ ?_ _) | (with_reducible refine Below.via (by with_reducible assumption) ?_ ?_) | (with_reducible exact Below.size (by with_reducible assumption)) | go_size | (with_reducible refine Nat.le_trans ?_ (Below.size (by with_reducible assumption))) | (with_reducible refine Nat.le_trans ?_ (sizeAlloc _ _)) | (with_reducible refine Nat.le_trans ?_ (sizeSet _ _ _)) | (with_reducible refine Nat.le_trans ?_ (sizeDrew _))))⟩
            case true =>
              have HQ := Lib.hid q
              have hv := (hblk.cell t).trans (arrI_get (by rw [rowMix_len]; exact hlt2))
              rw [rowMix_at pss hlt2, if_neg (by omega)] at hv
              have hfr := hblk.free t
              have hgl := hblk.lt
              obtain ⟨v1, v2⟩ := colSum_bd (pss := pss) (m := m1) (k := k) (t := t) (fun j hj => hpre.out j (by omega)) hlt2
              obtain ⟨z1, z2⟩ := inB_of q
              have hset := rowMix_set pss (k := k) hlt2
              have hcs : colSum pss (k + 1) t = colSum pss k t + z := by rw [colSum, HL.out, HZ.out]
              rw [hcs] at hset
              revert hset hv v1 v2
              generalize colSum pss k t = v
              intro hv v1 v2 hset
              have HSET := Lib.hid hset
              have HB := Lib.hid hblk
              clear hset hblk hcs
              go_wp2_with (go_at_call 56; refine (l00In_any _ _ _ _).mono ?_; rintro e w_ ⟨rfl, rfl⟩)
              go_region_with fail
              all_goals
                go_wp2_with fail
                go_roundw
                case rel =>
                  refine ⟨t + 1, by omega, by go_num, fun j hj => ?_, by rw [← HSET.out, ← arrI_set]; exact HB.out.set t _, by (repeat' (first | (with_reducible exact Below.refl _ _) | (with_reducible assumption) | (with_reducible refine Below.alloc ?_ ?_ _) | (with_reducible refine Below.drew ?_) | (with_reducible refine belowDrewN ?_ _) | (with_reducible refine Below.setCell ?_ ?_ _) | (with_reducible refine Below.via (by with_reducible assumption) ?_ ?_) | (with_reducible exact Below.size (by with_reducible assumption)) | go_size | (with_reducible refine Nat.le_trans ?_ (Below.size (by with_reducible assumption))) | (with_reducible refine Nat.le_trans ?_ (sizeAlloc _ _)) | (with_reducible refine Nat.le_trans ?_ (sizeSet _ _ _)) | (with_reducible refine Nat.le_trans ?_ (sizeDrew _))))⟩
                  rcases Nat.lt_or_ge j t with h | h
                  · exact hpre2.out j h
                  · obtain rfl : j = t := by omega
                    rw [HZ.out]; exact HQ.out
                case measure => first | (simp [intOf]; done) | (simp [intOf]; omega)
          · obtain rfl : t = m1 := by omega
            go_wp2_with fail
            go_roundw
            case rel =>
              refine ⟨k + 1, by omega, by go_num, fun j hj => ?_, by rw [← rowMix_full]; exact hblk, by (repeat' (first | (with_reducible exact Below.refl _ _) | (with_reducible assumption) | (with_reducible refine Below.alloc ?_ ?_ _) | (with_reducible refine Below.drew ?_) | (with_reducible refine belowDrewN ?_ _) | (with_reducible refine Below.setCell ?_ ?_ _) | (with_reducible refine Below.via (by with_reducible assumption) ?_ ?_) | (with_reducible exact Below.size (by with_reducible assumption)) | go_size | (with_reducible refine Nat.le_trans ?_ (Below.size (by with_reducible assumption))) | (with_reducible refine Nat.le_trans ?_ (sizeAlloc _ _)) | (with_reducible refine Nat.le_trans ?_ (sizeSet _ _ _)) | (with_reducible refine Nat.le_trans ?_ (sizeDrew _))))⟩
              rcases Nat.lt_or_ge j k with h | h
              · exact hpre.out j h
              · obtain rfl : j = k := by omega
                show mgOk1 _ (pss.getD j []) = true
                rw [HL.out]; exact mgOk1_t HLM.out hpre2.out
            case measure => first | (simp [intOf]; done) | (simp [intOf]; omega)
    · obtain rfl : k = n := by omega
      have hE : Hid (mgR pss k = (rowMix pss m k 0, 0)) := by
        have h5 := mgR_good HPL.out hn0 (by rw [HM.out]; exact hpre.out)
        rwa [HM.out] at h5
      obtain ⟨rfl, rfl⟩ := pairI (HR.out.symm.trans hE.out)
      clear hE
      go_wp2_with fail
      go_ret2
      exact ⟨_, _, m, m, rfl, by (repeat' (first | (with_reducible exact Below.refl _ _) | (with_reducible assumption) | (with_reducible refine Below.alloc ?_ ?_ _) | (with_reducible refine Below.drew ?_) | (with_reducible refine belowDrewN ?_ _) | (with_reducible refine Below.setCell ?_ ?_ _) | (with_reducible refine Below.via (by with_reducible assumption) ?_ ?_) | (with_reducible exact Below.size (by with_reducible assumption)) | go_size | (with_reducible refine Nat.le_trans ?_ (Below.size (by with_reducible assumption))) | (with_reducible refine Nat.le_trans ?_ (sizeAlloc _ _)) | (with_reducible refine Nat.le_trans ?_ (sizeSet _ _ _)) | (with_reducible refine Nat.le_trans ?_ (sizeDrew _)))), own_blk hblk (rowMix_len _ _ _ _), hm2, by (repeat' (first | (with_reducible exact Below.refl _ _) | (with_reducible assumption) | (with_reducible refine Below.alloc ?_ ?_ _) | (with_reducible refine Below.drew ?_) | (with_reducible refine belowDrewN ?_ _) | (with_reducible refine Below.setCell ?_ ?_ _) | (with_reducible refine Below.via (by with_reducible assumption) ?_ ?_) | (with_reducible exact Below.size (by with_reducible assumption)) | go_size | (with_reducible refine Nat.le_trans ?_ (Below.size (by with_reducible assumption))) | (with_reducible refine Nat.le_trans ?_ (sizeAlloc _ _)) | (with_reducible refine Nat.le_trans ?_ (sizeSet _ _ _)) | (with_reducible refine Nat.le_trans ?_ (sizeDrew _))))⟩
end Go.Proofs.Ytdndhbgompmmeaa
