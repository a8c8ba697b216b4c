/- ReadMatch, one side. Conditions: the table of powers as it is laid. -/
import Derived.Test.YtggnajoocfmgpaaDoorRdm
namespace Go.Proofs.YtggnajoocfmgpaaDoor
set_option linter.unusedSimpArgs false
set_option linter.unusedVariables false
open Go.RowKit Go.WideShapes Go.ChangeShapes

set_option maxRecDepth 4000 in
set_option maxHeartbeats 8000000 in
theorem ReadMatch_any (s : ByteArray) (n1 n2 n3 : Int) (n4 ok : Bool) (h : rdM s.data.toList = ((n1, n2, n3, n4), ok)) (hs : s.size ≤ 1048576) (w : World) (ht : TabW w) :
    Calls Tryd.prog 28 #[.string s] w fun e w' => e = .returned (.tuple #[.agg #[.int .i64 n1, .int .i64 n2, .int .i64 n3, .bool n4], .bool ok]) ∧ Below w.heap.size w w' := by
  obtain ⟨P, hP⟩ : ∃ P, splitL 32 s.data.toList = P := ⟨_, rfl⟩
  have HP := Lib.hid hP
  have hPl : P.length ≤ 1048577 := by
    have h3 := split_len 32 s.data.toList
    rw [hP, ba_len] at h3
    omega
  have hPm := split_mem 32 s.data.toList
  rw [hP, ba_len] at hPm
  have K0 := Lib.hid (Blk.new w 39 #[.int .i64 0, .int .i64 0, .int .i64 0, .bool false])
  by_cases hl : P.length < 3
  case pos =>
    have HE := Lib.hid ((rdM_short hP hl).symm.trans h)
    clear hP h hPm
    go_enter Tryd.func28, Tryd.ntmps28
    go_wp2_with fail
    refine (parts_any s hs _).mono ?_
    rw [HP.out]
    rintro e w1 ⟨A, g, cap, rfl, hg, ho, hb1⟩
    have B1 := Lib.hid (Below.via hb1 (Below.alloc (Below.refl _ _) (Nat.le_refl _) _) (by simp))
    have K1 := Lib.hid (K0.out.later hb1)
    clear hb1 ho
    have k0 := K1.out.cell 0
    have k1 := K1.out.cell 1
    have k2 := K1.out.cell 2
    have k3 := K1.out.cell 3
    have f0 := K1.out.free 0
    have f1 := K1.out.free 1
    have f2 := K1.out.free 2
    have f3 := K1.out.free 3
    go_wp2_with fail
    all_goals
      (try simp only [Exit.inBlock, Exit.then])
      refine bodyPost_ret (by simp [results, Tryd.results28, go_sem, k0, k1, k2, k3, f0, f1, f2, f3]; try rfl) rfl ?_
      exact ⟨tup_m HE.out, by have := B1.out; (repeat' (first | (with_reducible exact Below.refl _ _) | (with_reducible assumption) | (with_reducible refine Below.alloc ?_ ?_ _) | (with_reducible refine Below.drew ?_) | (with_reducible refine belowDrewN ?_ _) | (with_reducible refine Below.setCell ?_ ?_ _) | (with_reducible refine Below.via (by with_reducible assumption) ?_ ?_) | (with_reducible refine Below.viaD (by with_reducible assumption) ?_ ?_) | (with_reducible exact Below.size (by with_reducible assumption)) | go_size | (with_reducible refine Nat.le_trans ?_ (Below.size (by with_reducible assumption))) | (with_reducible refine Nat.le_trans ?_ (sizeAlloc _ _)) | (with_reducible refine Nat.le_trans ?_ (sizeSet _ _ _)) | (with_reducible refine Nat.le_trans ?_ (sizeDrew _))))⟩
  case neg =>
  obtain ⟨p1, p2, p3, R, rfl⟩ := list3m (show 3 ≤ P.length by omega)
  obtain ⟨s1, e1⟩ : ∃ f : ByteArray, ⟨p1.toArray⟩ = f := ⟨_, rfl⟩
  obtain ⟨s2, e2⟩ : ∃ f : ByteArray, ⟨p2.toArray⟩ = f := ⟨_, rfl⟩
  obtain ⟨s3, e3⟩ : ∃ f : ByteArray, ⟨p3.toArray⟩ = f := ⟨_, rfl⟩
  obtain ⟨a, o1, h1⟩ : ∃ x o, numR s1 = (x, o) := ⟨_, _, rfl⟩
  obtain ⟨b, o2, h2⟩ : ∃ x o, numR s2 = (x, o) := ⟨_, _, rfl⟩
  obtain ⟨c, o3, h3⟩ : ∃ x o, numR s3 = (x, o) := ⟨_, _, rfl⟩
  have HV1 : Hid (strV p1 = .string s1) := by unfold Hid strV; rw [e1]
  have HV2 : Hid (strV p2 = .string s2) := by unfold Hid strV; rw [e2]
  have HV3 : Hid (strV p3 = .string s3) := by unfold Hid strV; rw [e3]
  have hsz : s1.size ≤ s.size ∧ s2.size ≤ s.size ∧ s3.size ≤ s.size := by
    have q1 := hPm p1 (by simp)
    have q2 := hPm p2 (by simp)
    have q3 := hPm p3 (by simp)
    rw [← e1, ← e2, ← e3]
    exact ⟨by show p1.toArray.size ≤ _; simpa using q1, by show p2.toArray.size ≤ _; simpa using q2, by show p3.toArray.size ≤ _; simpa using q3⟩
  have hs0 : 0 < s.size := by
    rcases Nat.eq_zero_or_pos s.size with q | q
    · have q2 : s.data.toList = [] := List.eq_nil_of_length_eq_zero (by rw [ba_len]; exact q)
      rw [q2] at hP
      exact absurd (congrArg List.length hP) (by simp [splitL])
    · exact q
  obtain ⟨ff, hff⟩ : ∃ q, decide ((p1 :: p2 :: p3 :: R).length = 4) = q := ⟨_, rfl⟩
  have hfl : (((p1 :: p2 :: p3 :: R).length : Int) == 4) = ff := by
    rw [← hff, Bool.eq_iff_iff, beq_iff_eq, decide_eq_true_eq]; omega
  have HBAD : Hid ((o1 && o2 && o3) = false → Z4 = ((n1, n2, n3, n4), ok)) := by
    intro q
    rw [← h, rdM_bad hP (by rw [e1, e2, e3, h1, h2, h3]; exact q)]
  obtain ⟨t, ht0⟩ : ∃ t, matchX a b c ff = t := ⟨_, rfl⟩
  have HMT := Lib.hid ht0
  have HGOOD : Hid ((o1 && o2 && o3) = true → (if t = s then ((a, b, c, ff), true) else Z4) = ((n1, n2, n3, n4), ok)) := by
    intro q
    simp only [Bool.and_eq_true] at q
    obtain ⟨⟨rfl, rfl⟩, rfl⟩ := q
    have q1 := rdM_same (a := a) (b := b) (c := c) hP (by simp) rfl rfl rfl (by show numR ⟨p1.toArray⟩ = _; rw [e1]; exact h1) (by show numR ⟨p2.toArray⟩ = _; rw [e2]; exact h2) (by show numR ⟨p3.toArray⟩ = _; rw [e3]; exact h3)
    rw [hff, ht0, h] at q1
    rw [q1]
    by_cases q2 : t = s
    · rw [if_pos q2, if_pos]
      refine ⟨q2, ?_⟩
      cases q3 : mOk 11 a b c
      · rw [← ht0, matchX, q3] at q2
        have q4 : (⟨#[]⟩ : ByteArray) = s := q2
        rw [← q4] at hs0
        exact absurd hs0 (by decide)
      · rfl
    · rw [if_neg q2, if_neg (fun q3 => q2 q3.1)]
  have hz0 : (s.toList == ({ data := #[] } : ByteArray).toList) = false := by rw [beq_eq_false_iff_ne]; intro q; rw [toList_inj q] at hs0; exact absurd hs0 (by decide)
  have hz1 : (s.toList == []) = false := by rw [beq_eq_false_iff_ne]; intro q; rw [ByteArray.toList_eq] at q; have := ba_len s; rw [q] at this; simp at this; omega
  clear ht0
  have H1 := Lib.hid h1
  have H2 := Lib.hid h2
  have H3 := Lib.hid h3
  clear h1 h2 h3 h e1 e2 e3 hP hPm hff
  by_cases hts : t = s
  case pos =>
    have hcmp : (t.toList == s.toList) = true := by rw [beq_iff_eq, hts]
    have HTS := Lib.hid hts
    clear hts
    go_enter Tryd.func28, Tryd.ntmps28
    go_wp2_with fail
    refine (parts_any s hs _).mono ?_
    rw [HP.out]
    rintro e w1 ⟨A, g, cap, rfl, hg, ho, hb1⟩
    have B1 := Lib.hid (Below.via hb1 (Below.alloc (Below.refl _ _) (Nat.le_refl _) _) (by simp))
    have K1 := Lib.hid (K0.out.later hb1)
    obtain ⟨rfl, rest, hblk⟩ := ho.blk (by simp)
    have KP := Lib.hid hblk
    have c0 := KP.out.cell 0
    have c1 := KP.out.cell 1
    have c2 := KP.out.cell 2
    have hg1 := hblk.lt
    clear hb1 ho hblk
    simp only [List.map_cons, HV1.out, HV2.out, HV3.out] at c0 c1 c2
    obtain ⟨PL, hPL⟩ : ∃ n : Nat, (p1 :: p2 :: p3 :: R).length = n := ⟨_, rfl⟩
    rw [hPL] at hl hPl hfl 
    try rw [hPL]
    clear hPL
    go_wp2_with fail
    refine (ReadDecimal_any s1 a o1 H1.out (by omega) _ (ht.later B1.out)).mono ?_
    rintro e w2 ⟨rfl, hb2⟩
    have B2 := Lib.hid (Below.via hb2 B1.out B1.out.size)
    have K2 := Lib.hid (K1.out.later hb2)
    replace c1 := (hb2.cell (p := ⟨g, 1, none⟩) hg1).trans c1
    replace c2 := (hb2.cell (p := ⟨g, 2, none⟩) hg1).trans c2
    have hg2 : g < w2.heap.size := Nat.lt_of_lt_of_le hg1 hb2.size
    clear hb2 c0
    go_wp2_with fail
    refine (ReadDecimal_any s2 b o2 H2.out (by omega) _ (ht.later B2.out)).mono ?_
    rintro e w3 ⟨rfl, hb3⟩
    have B3 := Lib.hid (Below.via hb3 B2.out B2.out.size)
    have K3 := Lib.hid (K2.out.later hb3)
    replace c2 := (hb3.cell (p := ⟨g, 2, none⟩) hg2).trans c2
    clear hb3 c1
    go_wp2_with fail
    refine (ReadDecimal_any s3 c o3 H3.out (by omega) _ (ht.later B3.out)).mono ?_
    rintro e w4 ⟨rfl, hb4⟩
    have B4 := Lib.hid (Below.via hb4 B3.out B3.out.size)
    have K4 := Lib.hid (K3.out.later hb4)
    clear hb4 c2 hg1 hg2
    have z4 := B4.out.size
    have l4 := K4.out.lt
    have AL : Hid (∀ W : World, Below (w4.alloc (.cells #[.int .i64 a, .int .i64 b, .int .i64 c, .bool ff] 39)).heap.size (w4.alloc (.cells #[.int .i64 a, .int .i64 b, .int .i64 c, .bool ff] 39)) W → (W.cell? ⟨w4.heap.size, 0, none⟩ = some (.int .i64 a) ∧ W.cell? ⟨w4.heap.size, 1, none⟩ = some (.int .i64 b) ∧ W.cell? ⟨w4.heap.size, 2, none⟩ = some (.int .i64 c) ∧ W.cell? ⟨w4.heap.size, 3, none⟩ = some (.bool ff)) ∧ (W.cell? ⟨w.heap.size, 0, none⟩ = some (.int .i64 0) ∧ W.cell? ⟨w.heap.size, 1, none⟩ = some (.int .i64 0) ∧ W.cell? ⟨w.heap.size, 2, none⟩ = some (.int .i64 0) ∧ W.cell? ⟨w.heap.size, 3, none⟩ = some (.bool false)) ∧ (W.frozen? ⟨w.heap.size, 0, none⟩ = false ∧ W.frozen? ⟨w.heap.size, 1, none⟩ = false ∧ W.frozen? ⟨w.heap.size, 2, none⟩ = false ∧ W.frozen? ⟨w.heap.size, 3, none⟩ = false) ∧ Hid (Below w.heap.size w W)) := by
      intro W hb
      have X := (Blk.new w4 39 #[.int .i64 a, .int .i64 b, .int .i64 c, .bool ff]).later hb
      have K := (K4.out.later (Below.alloc (Below.refl _ _) (Nat.le_refl _) (.cells #[.int .i64 a, .int .i64 b, .int .i64 c, .bool ff] 39))).later hb
      exact ⟨⟨X.cell 0, X.cell 1, X.cell 2, X.cell 3⟩, ⟨K.cell 0, K.cell 1, K.cell 2, K.cell 3⟩, ⟨K.free 0, K.free 1, K.free 2, K.free 3⟩, Below.via hb (Below.alloc B4.out z4 (.cells #[.int .i64 a, .int .i64 b, .int .i64 c, .bool ff] 39)) (by simp; omega)⟩
    go_upto_region 8 with fail
    cases o1 <;> cases o2 <;> cases o3
    all_goals
      first
      | (have HE2 : Hid (Z4 = ((n1, n2, n3, n4), ok)) := HBAD.out rfl)
      | (have HE2 : Hid (((a, b, c, ff), true) = ((n1, n2, n3, n4), ok)) := by (have q := HGOOD.out rfl; rw [if_pos HTS.out] at q; exact q))
      obtain ⟨w5, hw5⟩ : ∃ w5, w5 = (w4.alloc (.cells #[.int .i64 a, .int .i64 b, .int .i64 c, .bool ff] 39)) := ⟨_, rfl⟩
      have HB5 : Hid (Below (w4.alloc (.cells #[.int .i64 a, .int .i64 b, .int .i64 c, .bool ff] 39)).heap.size (w4.alloc (.cells #[.int .i64 a, .int .i64 b, .int .i64 c, .bool ff] 39)) w5) := by unfold Hid; rw [hw5]; exact Below.refl _ _
      obtain ⟨⟨x0, x1, x2, x3⟩, ⟨k0, k1, k2, k3⟩, ⟨f0, f1, f2, f3⟩, BB⟩ := AL.out w5 HB5.out
      rw [← hw5]
      clear hw5
      go_wp2_with (go_at_call 21; (with_reducible refine Calls.mono (MatchText_any a b c ff t HMT.out _ (ht.later BB.out)) ?_); rintro e w6 ⟨rfl, hb6⟩; obtain ⟨⟨x0, x1, x2, x3⟩, ⟨k0, k1, k2, k3⟩, ⟨f0, f1, f2, f3⟩, BB⟩ := AL.out w6 (Below.via hb6 HB5.out HB5.out.size))
      all_goals
        (try simp only [Exit.inBlock, Exit.then])
        refine bodyPost_ret (by simp [results, Tryd.results28, go_sem, k0, k1, k2, k3, f0, f1, f2, f3]; try rfl) rfl ?_
        exact ⟨tup_m HE2.out, by have := BB.out; (repeat' (first | (with_reducible exact Below.refl _ _) | (with_reducible assumption) | (with_reducible refine Below.alloc ?_ ?_ _) | (with_reducible refine Below.drew ?_) | (with_reducible refine belowDrewN ?_ _) | (with_reducible refine Below.setCell ?_ ?_ _) | (with_reducible refine Below.via (by with_reducible assumption) ?_ ?_) | (with_reducible refine Below.viaD (by with_reducible assumption) ?_ ?_) | (with_reducible exact Below.size (by with_reducible assumption)) | go_size | (with_reducible refine Nat.le_trans ?_ (Below.size (by with_reducible assumption))) | (with_reducible refine Nat.le_trans ?_ (sizeAlloc _ _)) | (with_reducible refine Nat.le_trans ?_ (sizeSet _ _ _)) | (with_reducible refine Nat.le_trans ?_ (sizeDrew _))))⟩
  case neg =>
    have hcmp : (t.toList == s.toList) = false := by rw [beq_eq_false_iff_ne]; intro q; exact hts (toList_inj q)
    have HTS := Lib.hid hts
    clear hts
    go_enter Tryd.func28, Tryd.ntmps28
    go_wp2_with fail
    refine (parts_any s hs _).mono ?_
    rw [HP.out]
    rintro e w1 ⟨A, g, cap, rfl, hg, ho, hb1⟩
    have B1 := Lib.hid (Below.via hb1 (Below.alloc (Below.refl _ _) (Nat.le_refl _) _) (by simp))
    have K1 := Lib.hid (K0.out.later hb1)
    obtain ⟨rfl, rest, hblk⟩ := ho.blk (by simp)
    have KP := Lib.hid hblk
    have c0 := KP.out.cell 0
    have c1 := KP.out.cell 1
    have c2 := KP.out.cell 2
    have hg1 := hblk.lt
    clear hb1 ho hblk
    simp only [List.map_cons, HV1.out, HV2.out, HV3.out] at c0 c1 c2
    obtain ⟨PL, hPL⟩ : ∃ n : Nat, (p1 :: p2 :: p3 :: R).length = n := ⟨_, rfl⟩
    rw [hPL] at hl hPl hfl 
    try rw [hPL]
    clear hPL
    go_wp2_with fail
    refine (ReadDecimal_any s1 a o1 H1.out (by omega) _ (ht.later B1.out)).mono ?_
    rintro e w2 ⟨rfl, hb2⟩
    have B2 := Lib.hid (Below.via hb2 B1.out B1.out.size)
    have K2 := Lib.hid (K1.out.later hb2)
    replace c1 := (hb2.cell (p := ⟨g, 1, none⟩) hg1).trans c1
    replace c2 := (hb2.cell (p := ⟨g, 2, none⟩) hg1).trans c2
    have hg2 : g < w2.heap.size := Nat.lt_of_lt_of_le hg1 hb2.size
    clear hb2 c0
    go_wp2_with fail
    refine (ReadDecimal_any s2 b o2 H2.out (by omega) _ (ht.later B2.out)).mono ?_
    rintro e w3 ⟨rfl, hb3⟩
    have B3 := Lib.hid (Below.via hb3 B2.out B2.out.size)
    have K3 := Lib.hid (K2.out.later hb3)
    replace c2 := (hb3.cell (p := ⟨g, 2, none⟩) hg2).trans c2
    clear hb3 c1
    go_wp2_with fail
    refine (ReadDecimal_any s3 c o3 H3.out (by omega) _ (ht.later B3.out)).mono ?_
    rintro e w4 ⟨rfl, hb4⟩
    have B4 := Lib.hid (Below.via hb4 B3.out B3.out.size)
    have K4 := Lib.hid (K3.out.later hb4)
    clear hb4 c2 hg1 hg2
    have z4 := B4.out.size
    have l4 := K4.out.lt
    have AL : Hid (∀ W : World, Below (w4.alloc (.cells #[.int .i64 a, .int .i64 b, .int .i64 c, .bool ff] 39)).heap.size (w4.alloc (.cells #[.int .i64 a, .int .i64 b, .int .i64 c, .bool ff] 39)) W → (W.cell? ⟨w4.heap.size, 0, none⟩ = some (.int .i64 a) ∧ W.cell? ⟨w4.heap.size, 1, none⟩ = some (.int .i64 b) ∧ W.cell? ⟨w4.heap.size, 2, none⟩ = some (.int .i64 c) ∧ W.cell? ⟨w4.heap.size, 3, none⟩ = some (.bool ff)) ∧ (W.cell? ⟨w.heap.size, 0, none⟩ = some (.int .i64 0) ∧ W.cell? ⟨w.heap.size, 1, none⟩ = some (.int .i64 0) ∧ W.cell? ⟨w.heap.size, 2, none⟩ = some (.int .i64 0) ∧ W.cell? ⟨w.heap.size, 3, none⟩ = some (.bool false)) ∧ (W.frozen? ⟨w.heap.size, 0, none⟩ = false ∧ W.frozen? ⟨w.heap.size, 1, none⟩ = false ∧ W.frozen? ⟨w.heap.size, 2, none⟩ = false ∧ W.frozen? ⟨w.heap.size, 3, none⟩ = false) ∧ Hid (Below w.heap.size w W)) := by
      intro W hb
      have X := (Blk.new w4 39 #[.int .i64 a, .int .i64 b, .int .i64 c, .bool ff]).later hb
      have K := (K4.out.later (Below.alloc (Below.refl _ _) (Nat.le_refl _) (.cells #[.int .i64 a, .int .i64 b, .int .i64 c, .bool ff] 39))).later hb
      exact ⟨⟨X.cell 0, X.cell 1, X.cell 2, X.cell 3⟩, ⟨K.cell 0, K.cell 1, K.cell 2, K.cell 3⟩, ⟨K.free 0, K.free 1, K.free 2, K.free 3⟩, Below.via hb (Below.alloc B4.out z4 (.cells #[.int .i64 a, .int .i64 b, .int .i64 c, .bool ff] 39)) (by simp; omega)⟩
    go_upto_region 8 with fail
    cases o1 <;> cases o2 <;> cases o3
    all_goals
      first
      | (have HE2 : Hid (Z4 = ((n1, n2, n3, n4), ok)) := HBAD.out rfl)
      | (have HE2 : Hid (Z4 = ((n1, n2, n3, n4), ok)) := by (have q := HGOOD.out rfl; rw [if_neg HTS.out] at q; exact q))
      obtain ⟨w5, hw5⟩ : ∃ w5, w5 = (w4.alloc (.cells #[.int .i64 a, .int .i64 b, .int .i64 c, .bool ff] 39)) := ⟨_, rfl⟩
      have HB5 : Hid (Below (w4.alloc (.cells #[.int .i64 a, .int .i64 b, .int .i64 c, .bool ff] 39)).heap.size (w4.alloc (.cells #[.int .i64 a, .int .i64 b, .int .i64 c, .bool ff] 39)) w5) := by unfold Hid; rw [hw5]; exact Below.refl _ _
      obtain ⟨⟨x0, x1, x2, x3⟩, ⟨k0, k1, k2, k3⟩, ⟨f0, f1, f2, f3⟩, BB⟩ := AL.out w5 HB5.out
      rw [← hw5]
      clear hw5
      go_wp2_with (go_at_call 21; (with_reducible refine Calls.mono (MatchText_any a b c ff t HMT.out _ (ht.later BB.out)) ?_); rintro e w6 ⟨rfl, hb6⟩; obtain ⟨⟨x0, x1, x2, x3⟩, ⟨k0, k1, k2, k3⟩, ⟨f0, f1, f2, f3⟩, BB⟩ := AL.out w6 (Below.via hb6 HB5.out HB5.out.size))
      all_goals
        (try simp only [Exit.inBlock, Exit.then])
        refine bodyPost_ret (by simp [results, Tryd.results28, go_sem, k0, k1, k2, k3, f0, f1, f2, f3]; try rfl) rfl ?_
        exact ⟨tup_m HE2.out, by have := BB.out; (repeat' (first | (with_reducible exact Below.refl _ _) | (with_reducible assumption) | (with_reducible refine Below.alloc ?_ ?_ _) | (with_reducible refine Below.drew ?_) | (with_reducible refine belowDrewN ?_ _) | (with_reducible refine Below.setCell ?_ ?_ _) | (with_reducible refine Below.via (by with_reducible assumption) ?_ ?_) | (with_reducible refine Below.viaD (by with_reducible assumption) ?_ ?_) | (with_reducible exact Below.size (by with_reducible assumption)) | go_size | (with_reducible refine Nat.le_trans ?_ (Below.size (by with_reducible assumption))) | (with_reducible refine Nat.le_trans ?_ (sizeAlloc _ _)) | (with_reducible refine Nat.le_trans ?_ (sizeSet _ _ _)) | (with_reducible refine Nat.le_trans ?_ (sizeDrew _))))⟩
end Go.Proofs.YtggnajoocfmgpaaDoor
