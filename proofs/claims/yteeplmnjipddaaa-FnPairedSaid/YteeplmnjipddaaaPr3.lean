/- Pairings by points: one player left out, by the reference. Conditions: at most 12 players. -/
import Derived.Test.YteeplmnjipddaaaPr2
namespace Go.Proofs.Yteeplmnjipddaaa
set_option linter.unusedSimpArgs false
set_option linter.unusedVariables false
open Go.RowKit Go.WideShapes

theorem leave_parts {zs : List Int} {n k : Nat} (hl : zs.length = n) (hk : k < n) : ∃ l1 l2 : List Int, zs.take k = l1 ∧ (zs.drop (k + 1)).take (n - (k + 1)) = l2 ∧ leave zs k = l1 ++ l2 ∧ l1.length = k ∧ l2.length = n - (k + 1) := by
  refine ⟨_, _, rfl, rfl, ?_, ?_, ?_⟩
  · rw [leave]
    congr 1
    rw [List.take_of_length_le]
    rw [List.length_drop]; omega
  · rw [List.length_take]; omega
  · rw [List.length_take, List.length_drop]; omega
theorem tryN_even {met : Int → Int → Bool} {n : Nat} {L : List Int} (h : n % 2 = 0) : tryN met n L = pairN met (n / 2) L := by rw [tryN, if_pos h]
theorem tryN_odd {met : Int → Int → Bool} {n : Nat} {L : List Int} (h : n % 2 = 1) : tryN met n L = firstS (fun i => pairN met (n / 2) (leave L (n - 1 - i))) n := by rw [tryN, if_neg (by omega)]
set_option maxRecDepth 10000 in
set_option maxHeartbeats 1500000 in
theorem l24Try_any (zs : List Int) (c cp2 : Nat) (A2 : Option Addr) (hc : c ≤ 150) (A : Option Addr) (n cp : Nat) (L : List Int) (w : World) (l : List Int) (q : Nat) (ok : Bool) (hn1 : 1 ≤ n) (hn12 : n ≤ 12) (hnc : n ≤ cp) (hcm : cp ≤ maxLen) (hs : Sl w w.heap.size 1 A n (L.map (Value.int .i64))) (hm : Sl w w.heap.size 2 A2 c (zs.map (Value.int .i64))) (hr : prD (n / 2) (tryN (fun a b => metB zs a b c) n L) = (l, q, ok)) :
    Calls Try.prog 38 #[.slice A n cp, .slice A2 c cp2] w (PairPost Try.prog l q ok w) := by
  have HS := Lib.hid hs
  have HK := Lib.hid hm
  have HR := Lib.hid hr
  have hlen := hs.ints
  have HLEN := Lib.hid hlen
  have hmd : (n : Int).tmod 2 = (n : Int) % 2 := Int.tmod_eq_emod_of_nonneg (by omega)
  by_cases hev : n % 2 = 0
  case pos =>
    have hb : (((n : Int) % 2) == 0) = true := by rw [beq_iff_eq]; omega
    have HT : Hid (prD (n / 2) (pairN (fun a b => metB zs a b c) (n / 2) L) = (l, q, ok)) := by rw [← tryN_even hev]; exact hr
    have HN : Hid (n = 2 * (n / 2)) := by unfold Hid; omega
    clear hs hm hr hlen hev
    go_enter Try.func38, Try.ntmps38
    go_wp2_with fail
    refine (l24Pair_any zs c cp2 A2 hc (n / 2) (by omega) A n cp L _ l q ok HN.out hnc hcm HS.out HK.out HT.out).mono ?_
    rintro e w2 ⟨v, rfl, hown, hb2⟩
    have HO := Lib.hid hown
    clear hown
    go_wp2_with fail
    go_ret2
    exact ⟨v, rfl, HO.out, hb2⟩
  case neg =>
    have hb : (((n : Int) % 2) == 0) = false := by rw [beq_eq_false_iff_ne]; omega
    obtain ⟨F, hF⟩ : ∃ F, (fun i => pairN (fun a b => metB zs a b c) (n / 2) (leave L (n - 1 - i))) = F := ⟨_, rfl⟩
    have hT : prD (n / 2) (firstS F n) = (l, q, ok) := by rw [← hF, ← tryN_odd (by omega)]; exact hr
    have HFK : Hid (∀ i, F i = pairN (fun a b => metB zs a b c) (n / 2) (leave L (n - 1 - i))) := fun i => by rw [← hF]
    have HNO : Hid ((∀ i, i < n → F i = none) → l = [] ∧ q = 0 ∧ ok = false) := fun h => by
      rw [prD_none (firstS_none h)] at hT
      injection hT with e1 e2
      injection e2 with e2 e3
      exact ⟨e1.symm, e2.symm, e3.symm⟩
    have HYES : Hid (∀ k r, k < n → (∀ i, i < k → F i = none) → F k = some r → l = r ∧ q = n / 2 ∧ ok = true) := fun k r hk h1 h2 => by
      rw [prD_some (firstS_hit _ hk h1 h2)] at hT
      injection hT with e1 e2
      injection e2 with e2 e3
      exact ⟨e1.symm, e2.symm, e3.symm⟩
    have HN : Hid (n - 1 = 2 * (n / 2)) := by unfold Hid; omega
    obtain ⟨i0, ti, tz0, tz1, tz2⟩ := info_parts info_i64w
    have HI := Lib.hid (And.intro ti (And.intro tz0 (And.intro tz1 tz2)))
    have hw1 : IntKind.i64.wrap ((n : Int) - 1) = (n : Int) - 1 := IntWalk.i64_in _ (by omega)
    clear hs hm hr hlen hev hT hF ti tz0 tz1 tz2
    go_enter Try.func38, Try.ntmps38
    go_wp2_with fail
    go_loopw [6] (fun v wr => ∃ (i : Nat) (z : Int), i ≤ n ∧ Hid (z = (n : Int) - 1 - i) ∧ v = .int .i64 z ∧ Hid (∀ j, j < i → F j = none) ∧ Below w.heap.size w wr) (fun v _ => (intOf v + 1).toNat)
    case atStart => exact ⟨0, (n : Int) - 1, Nat.zero_le _, by unfold Hid; omega, rfl, fun j hj => absurd hj (by omega), Below.refl _ _⟩
    case round =>
      obtain ⟨i, z, hi, hz, rfl, hpre, hbl⟩ := hrel
      rename World => wo
      have HBL := Lib.hid hbl
      have hzo := hbl.size
      by_cases hlt : i < n
      · obtain ⟨k, rfl⟩ : ∃ k : Nat, z = k := ⟨n - 1 - i, by have := hz.out; omega⟩
        have hkn : k < n := by have := hz.out; omega
        have HSo := HS.out.later hbl
        have HKo := Lib.hid (HK.out.later hbl)
        obtain ⟨l1, l2, e1, e2, e3, hl1, hl2⟩ := leave_parts HLEN.out hkn
        have P1 : Hid (Sl wo wo.heap.size 1 A k (l1.map (Value.int .i64))) := by rw [← e1]; exact HSo.takew (by omega)
        have P2 : Hid (Part wo cp n (k + 1) n A l2) := fun A' hA => by rw [← e2]; exact HSo.partw (by omega) (Nat.le_refl _) hnc hA
        have E3 := Lib.hid e3
        have g1 : (0 : Int) ≤ (k : Int) := by omega
        have g2 : (k : Int) ≤ (cp : Int) := by omega
        have g3 : (k : Int) + 1 ≤ (n : Int) := by omega
        have g4 : (0 : Int) ≤ (k : Int) + 1 := by omega
        have g5 : IntKind.i64.wrap ((k : Int) + 1) = (k : Int) + 1 := IntWalk.i64_in _ (by omega)
        have HCK : (cp = k + 1) = True ∨ (cp = k + 1) = False := by
          by_cases h : cp = k + 1
          · exact Or.inl (eq_true h)
          · exact Or.inr (eq_false h)
        clear e1 e2 e3 HSo hbl
        rcases HCK with hck | hck
        · go_wp2_with fail
          go_region_held3 (fun W => 0 ≤ W.heap.size) (exact Nat.zero_le _) (first
            | (go_at_call 29; (with_reducible refine Calls.mono (l00Own_row _ k cp l1 _ ?_ ?_) ?_); (exact P1.out.drew); omega; rintro e w3 ⟨v3, rfl, hown3, hb3⟩; have HO3 := Lib.hid hown3; have P3 := Lib.hid (P2.out.drew.later hb3); have K3 := Lib.hid (HKo.out.drew.later hb3); have hbn : Below wo.heap.size wo w3 := Below.undrew hb3; have hz3 := hbn.size; clear hown3 hb3)
            | (refine step_append_sl _ rfl _ _ 24 rfl wo.heap.size 2 i0 _ 1 8 Try.underlying24 HI.out.1 HI.out.2.1 HI.out.2.2.1 HI.out.2.2.2 rfl (by decide) v3 k (l1.map (Value.int .i64)) rfl HO3.out w3.heap.size _ (n - (k + 1)) (cp - (k + 1)) (l2.map (Value.int .i64)) rfl ?_ (one_cells l2) ?_ ?_ hz3 ?_; (refine P3.out _ ?_; intro h; exact absurd (of_eq_true hck) h); (unfold maxLen; omega); omega; intro v4 w4 hown4 hg4 _))
          all_goals
            have hb4 : Below wo.heap.size wo w4 := below_app hbn HO3.out hg4 (Nat.le_refl _) hz3
            have K4 := Lib.hid (HKo.out.later hb4)
            rw [← List.map_append, ← E3.out, show k + (n - (k + 1)) = n - 1 by omega] at hown4
            obtain ⟨A4, g4', cap4, rfl, hg4', hnc4, hcm4, ho4⟩ := own_of_row hown4
            have SL4 := Lib.hid ho4.sl
            have B4 := Lib.hid (Below.via hb4 HBL.out hzo)
            have hz4 := B4.out.size
            obtain ⟨l5, q5, ok5, hr5⟩ : ∃ l5 q5 ok5, prD (n / 2) (pairN (fun a b => metB zs a b c) (n / 2) (leave L k)) = (l5, q5, ok5) := ⟨_, _, _, rfl⟩
            have HR5 := Lib.hid hr5
            clear hown4 hg4 ho4 hr5 hb4
            go_wp2_with fail
            refine (l24Pair_any zs c cp2 A2 hc (n / 2) (by omega) A4 (n - 1) cap4 (leave L k) _ l5 q5 ok5 HN.out hnc4 hcm4 SL4.out K4.out HR5.out).mono ?_
            rintro e w5 ⟨v5, rfl, hown5, hb5⟩
            have HO5 := Lib.hid (own_baseM hown5 hz4)
            have B5 := Lib.hid (Below.via hb5 B4.out hz4)
            have HKI : Hid (F i = pairN (fun a b => metB zs a b c) (n / 2) (leave L k)) := by
              unfold Hid
              rw [HFK.out, show n - 1 - i = k by have := hz.out; omega]
            clear hown5 hb5
            cases ho : pairN (fun a b => metB zs a b c) (n / 2) (leave L k)
            case none =>
              have h := HR5.out
              rw [prD_none ho] at h
              injection h with h1 h2
              injection h2 with h2 h3
              subst h1 h2 h3
              have HFN : Hid (F i = none) := by unfold Hid; rw [HKI.out, ho]
              clear ho
              go_wp2_with fail
              go_roundw
              case rel =>
                refine ⟨i + 1, (k : Int) - 1, by omega, by unfold Hid; have := hz.out; omega, by first | rfl | go_num, fun j hj => ?_, B5.out⟩
                rcases Nat.lt_or_ge j i with h | h
                · exact hpre.out j h
                · obtain rfl : j = i := by omega
                  exact HFN.out
              case measure => first | (simp [intOf]; done) | (simp [intOf]; omega)
            case some r =>
              have h := HR5.out
              rw [prD_some ho] at h
              injection h with h1 h2
              injection h2 with h2 h3
              subst h1 h2 h3
              obtain ⟨y1, y2, y3⟩ := HYES.out i _ hlt hpre.out (HKI.out.trans ho)
              subst y1 y2 y3
              clear ho
              go_wp2_with fail
              go_ret2
              exact ⟨v5, rfl, HO5.out, B5.out⟩
        · go_wp2_with fail
          go_region_held3 (fun W => 0 ≤ W.heap.size) (exact Nat.zero_le _) (first
            | (go_at_call 29; (with_reducible refine Calls.mono (l00Own_row _ k cp l1 _ ?_ ?_) ?_); (exact P1.out.drew); omega; rintro e w3 ⟨v3, rfl, hown3, hb3⟩; have HO3 := Lib.hid hown3; have P3 := Lib.hid (P2.out.drew.later hb3); have K3 := Lib.hid (HKo.out.drew.later hb3); have hbn : Below wo.heap.size wo w3 := Below.undrew hb3; have hz3 := hbn.size; clear hown3 hb3)
            | (refine step_append_sl _ rfl _ _ 24 rfl wo.heap.size 2 i0 _ 1 8 Try.underlying24 HI.out.1 HI.out.2.1 HI.out.2.2.1 HI.out.2.2.2 rfl (by decide) v3 k (l1.map (Value.int .i64)) rfl HO3.out w3.heap.size _ (n - (k + 1)) (cp - (k + 1)) (l2.map (Value.int .i64)) rfl ?_ (one_cells l2) ?_ ?_ hz3 ?_; (refine P3.out _ ?_; intro h; simp [Addr.add, h]); (unfold maxLen; omega); omega; intro v4 w4 hown4 hg4 _))
          all_goals
            have hb4 : Below wo.heap.size wo w4 := below_app hbn HO3.out hg4 (Nat.le_refl _) hz3
            have K4 := Lib.hid (HKo.out.later hb4)
            rw [← List.map_append, ← E3.out, show k + (n - (k + 1)) = n - 1 by omega] at hown4
            obtain ⟨A4, g4', cap4, rfl, hg4', hnc4, hcm4, ho4⟩ := own_of_row hown4
            have SL4 := Lib.hid ho4.sl
            have B4 := Lib.hid (Below.via hb4 HBL.out hzo)
            have hz4 := B4.out.size
            obtain ⟨l5, q5, ok5, hr5⟩ : ∃ l5 q5 ok5, prD (n / 2) (pairN (fun a b => metB zs a b c) (n / 2) (leave L k)) = (l5, q5, ok5) := ⟨_, _, _, rfl⟩
            have HR5 := Lib.hid hr5
            clear hown4 hg4 ho4 hr5 hb4
            go_wp2_with fail
            refine (l24Pair_any zs c cp2 A2 hc (n / 2) (by omega) A4 (n - 1) cap4 (leave L k) _ l5 q5 ok5 HN.out hnc4 hcm4 SL4.out K4.out HR5.out).mono ?_
            rintro e w5 ⟨v5, rfl, hown5, hb5⟩
            have HO5 := Lib.hid (own_baseM hown5 hz4)
            have B5 := Lib.hid (Below.via hb5 B4.out hz4)
            have HKI : Hid (F i = pairN (fun a b => metB zs a b c) (n / 2) (leave L k)) := by
              unfold Hid
              rw [HFK.out, show n - 1 - i = k by have := hz.out; omega]
            clear hown5 hb5
            cases ho : pairN (fun a b => metB zs a b c) (n / 2) (leave L k)
            case none =>
              have h := HR5.out
              rw [prD_none ho] at h
              injection h with h1 h2
              injection h2 with h2 h3
              subst h1 h2 h3
              have HFN : Hid (F i = none) := by unfold Hid; rw [HKI.out, ho]
              clear ho
              go_wp2_with fail
              go_roundw
              case rel =>
                refine ⟨i + 1, (k : Int) - 1, by omega, by unfold Hid; have := hz.out; omega, by first | rfl | go_num, fun j hj => ?_, B5.out⟩
                rcases Nat.lt_or_ge j i with h | h
                · exact hpre.out j h
                · obtain rfl : j = i := by omega
                  exact HFN.out
              case measure => first | (simp [intOf]; done) | (simp [intOf]; omega)
            case some r =>
              have h := HR5.out
              rw [prD_some ho] at h
              injection h with h1 h2
              injection h2 with h2 h3
              subst h1 h2 h3
              obtain ⟨y1, y2, y3⟩ := HYES.out i _ hlt hpre.out (HKI.out.trans ho)
              subst y1 y2 y3
              clear ho
              go_wp2_with fail
              go_ret2
              exact ⟨v5, rfl, HO5.out, B5.out⟩
      · obtain rfl : i = n := by omega
        obtain ⟨y1, y2, y3⟩ := HNO.out hpre.out
        subst y1 y2 y3
        obtain rfl : z = -1 := by have := hz.out; omega
        go_wp2
        go_ret2
        exact ⟨_, rfl, ⟨rfl, .inl ⟨rfl, rfl⟩⟩, hbl⟩
end Go.Proofs.Yteeplmnjipddaaa
