/- PairingsLeft: both functions, and the law. No conditions beyond lengths. -/
import Derived.Test.YteeplmnjipddaaaWays6
namespace Go.Proofs.Yteeplmnjipddaaa
set_option linter.unusedSimpArgs false
set_option linter.unusedVariables false
open Go.RowKit Go.WideShapes

/-- The numbers 0, 1, .. -/
def rangeL (n : Nat) : List Int := (List.range n).map fun i : Nat => (i : Int)
theorem rangeL_succ (n : Nat) : rangeL (n + 1) = rangeL n ++ [(n : Int)] := by simp [rangeL, List.range_succ]
theorem rangeL_len (n : Nat) : (rangeL n).length = n := by simp [rangeL]
theorem rangeL_mem {n : Nat} {x : Int} (h : x ∈ rangeL n) : 0 ≤ x ∧ x < n := by
  rw [rangeL, List.mem_map] at h
  obtain ⟨i, hi, rfl⟩ := h
  rw [List.mem_range] at hi
  omega
theorem posL_all {F : Int → Int} {v : Int} {O : List Int} (h : ∀ x, ¬ F x < v) (k : Nat) : posL F v O k = k := by
  cases k with
  | zero => rfl
  | succ k => rw [posL, if_neg (h _)]
theorem ordL_flat {F : Int → Int} (h : ∀ x y, ¬ F x < F y) : ∀ n, ordL F n = rangeL n
  | 0 => rfl
  | n + 1 => by
    have ih := ordL_flat h n
    rw [ordL, posL_all (fun x => h x _), ih, rangeL_succ]
    rw [List.take_of_length_le (by rw [rangeL_len]; exact Nat.le_refl _), List.drop_of_length_le (by rw [rangeL_len]; exact Nat.le_refl _), List.append_nil]
theorem ptF_zero (n : Nat) (x : Int) : ptF (List.replicate n 0) x = 0 := by
  unfold ptF
  rw [List.getD_eq_getElem?_getD, List.getElem?_replicate]
  split <;> rfl
theorem ordL_zero (n : Nat) : ordL (ptF (List.replicate n 0)) n = rangeL n := ordL_flat (fun x y => by rw [ptF_zero, ptF_zero]; decide) n
def plR (n : Int) (zs : List Int) (c : Nat) : Int × Int := if validM n zs then (if n % 2 = 1 then (0, 6) else (waysN (fun a b => metB zs a b c) (n.toNat / 2) (rangeL n.toNat), 0)) else (0, 1)
theorem plR_no {n : Int} {zs : List Int} {c : Nat} (h : validM n zs = false) : plR n zs c = (0, 1) := by rw [plR, h]; rfl
theorem plR_odd {n : Int} {zs : List Int} {c : Nat} (h : validM n zs = true) (h2 : n % 2 = 1) : plR n zs c = (0, 6) := by rw [plR, h, if_pos rfl, if_pos h2]
theorem plR_yes {n : Nat} {zs : List Int} {c : Nat} (h : validM n zs = true) (h2 : ¬ (n : Int) % 2 = 1) : plR n zs c = (waysN (fun a b => metB zs a b c) (n / 2) (rangeL n), 0) := by rw [plR, h, if_pos rfl, if_neg h2, Int.toNat_natCast]
theorem info_i64p : (Try.prog.info? 2).map (fun i => (i.zero, i.size, i.bytes)) = some (some (.int .i64 0), 1, 8) := by kernel_rfl
set_option maxRecDepth 10000 in
set_option maxHeartbeats 1500000 in
theorem sPairingsLeft_any (n : Int) (A : Option Addr) (c cp : Nat) (zs : List Int) (w : World) (hs : Sl w w.heap.size 2 A c (zs.map (Value.int .i64))) (hc : c ≤ 9223372036854775807) (v code : Int) (h : plR n zs c = (v, code)) :
    Calls Try.prog 26 #[.int .i64 n, .slice A c cp] w fun e w' => e = .returned (.tuple #[.int .i64 v, .int .i64 code]) ∧ Below w.heap.size w w' := by
  have HS := Lib.hid hs
  have hl2 : zs.length = c * 2 := by have := hs.1; simpa using this
  cases hv : validM n zs
  case false =>
    rw [plR_no hv] at h
    injection h with h1 h2
    subst h1 h2
    go_enter Try.func26, Try.ntmps26
    go_wp2_with (go_at_call 35; refine (l24Ok_any n A c cp zs _ HS.out hc).mono ?_; rintro e w1 ⟨rfl, hb1⟩; obtain ⟨hc1, hf1, hl1, hz1⟩ := bfacts hb1; (try simp only [World.size_alloc, World.size_setCell, World.size_drew] at hz1))
    go_ret2
    exact ⟨rfl, by (repeat' (first | (with_reducible exact Below.refl _ _) | (with_reducible assumption) | (with_reducible refine Below.alloc ?_ ?_ _) | (with_reducible refine Below.drew ?_) | (with_reducible refine belowDrewN ?_ _) | (with_reducible refine Below.setCell ?_ ?_ _) | (with_reducible refine Below.via (by with_reducible assumption) ?_ ?_) | (with_reducible refine Below.viaD (by with_reducible assumption) ?_ ?_) | (with_reducible exact Below.size (by with_reducible assumption)) | go_size | (with_reducible refine Nat.le_trans ?_ (Below.size (by with_reducible assumption))) | (with_reducible refine Nat.le_trans ?_ (sizeAlloc _ _)) | (with_reducible refine Nat.le_trans ?_ (sizeSet _ _ _)) | (with_reducible refine Nat.le_trans ?_ (sizeDrew _))))⟩
  case true =>
    obtain ⟨k, rfl, k1, k2, hl, hz⟩ := validM_of hv
    by_cases hodd : (k : Int) % 2 = 1
    case pos =>
      rw [plR_odd hv hodd] at h
      injection h with h1 h2
      subst h1 h2
      have hb : (((k : Int) % 2) == 1) = true := by rw [beq_iff_eq]; exact hodd
      have hm : (k : Int).tmod 2 = (k : Int) % 2 := Int.tmod_eq_emod_of_nonneg (by omega)
      clear hodd hz hl2
      go_enter Try.func26, Try.ntmps26
      go_wp2_with (go_at_call 35; refine (l24Ok_any k A c cp zs _ HS.out hc).mono ?_; rintro e w1 ⟨rfl, hb1⟩; obtain ⟨hc1, hf1, hl1, hz1⟩ := bfacts hb1; (try simp only [World.size_alloc, World.size_setCell, World.size_drew] at hz1))
      go_ret2
      exact ⟨rfl, by (repeat' (first | (with_reducible exact Below.refl _ _) | (with_reducible assumption) | (with_reducible refine Below.alloc ?_ ?_ _) | (with_reducible refine Below.drew ?_) | (with_reducible refine belowDrewN ?_ _) | (with_reducible refine Below.setCell ?_ ?_ _) | (with_reducible refine Below.via (by with_reducible assumption) ?_ ?_) | (with_reducible refine Below.viaD (by with_reducible assumption) ?_ ?_) | (with_reducible exact Below.size (by with_reducible assumption)) | go_size | (with_reducible refine Nat.le_trans ?_ (Below.size (by with_reducible assumption))) | (with_reducible refine Nat.le_trans ?_ (sizeAlloc _ _)) | (with_reducible refine Nat.le_trans ?_ (sizeSet _ _ _)) | (with_reducible refine Nat.le_trans ?_ (sizeDrew _))))⟩
    case neg =>
      rw [plR_yes hv hodd] at h
      injection h with h1 h2
      subst h2
      have H1 := Lib.hid h1
      have hb : (((k : Int) % 2) == 1) = false := by rw [beq_eq_false_iff_ne]; exact hodd
      have hm : (k : Int).tmod 2 = (k : Int) % 2 := Int.tmod_eq_emod_of_nonneg (by omega)
      have hk2 : k = 2 * (k / 2) := by omega
      have HK2 := Lib.hid hk2
      have hc150 : c ≤ 150 := by omega
      obtain ⟨i0, hi, hz0, hz1, hz2⟩ := info_parts info_i64p
      have hmk := fun W => run_makeN (P := Try.prog) 24 2 i0 (.int .i64 0) Try.underlying24 hi hz0 .i64 .i64 k k (Nat.le_refl _) (by rw [hz2]; omega) (by omega) W
      rw [hz1, Nat.mul_one, show (Value.int .i64 0).cells = #[Value.int .i64 0] from rfl, made_one, ← List.map_replicate] at hmk
      obtain ⟨Z, hZ⟩ : ∃ Z, List.replicate k (0 : Int) = Z := ⟨_, rfl⟩
      have HZ := Lib.hid hZ
      have hZl : Z.length = k := by rw [← hZ]; simp
      have HZL := Lib.hid hZl
      rw [hZ] at hmk
      clear hodd hz hl2 hk2 h1 hi hz0 hz1 hz2 hZ hZl
      go_enter Try.func26, Try.ntmps26
      go_wp2_with (go_at_call 35; refine (l24Ok_any k A c cp zs _ HS.out hc).mono ?_; rintro e w1 ⟨rfl, hb1⟩; obtain ⟨hc1, hf1, hl1, hz1⟩ := bfacts hb1; (try simp only [World.size_alloc, World.size_setCell, World.size_drew] at hz1))
      have HM := Lib.hid (HS.out.later hb1)
      have HMA := Lib.hid (HM.out.later (Below.alloc (Below.refl _ _) (Nat.le_refl _) (.cells (Z.map (Value.int .i64)).toArray 2)))
      have BA := Lib.hid (Below.alloc hb1 hz1 (.cells (Z.map (Value.int .i64)).toArray 2))
      have hza := BA.out.size
      have SZ := Lib.hid (Blk.sl (zs := Z) (rest := []) (m := 1) (n := k) (by rw [List.append_nil]; exact Blk.new w1 2 _) (by rw [HZL.out, Nat.mul_one]))
      refine (l24Order_any _ k k Z _ SZ.out k2).mono ?_
      rintro e w2 ⟨v2, rfl, hown, hb2⟩
      obtain ⟨A2, g2, cap2, rfl, hg2, hnc2, hcm2, ho2⟩ := own_of_row hown
      have SO := Lib.hid ho2.sl
      rw [← HZ.out, ordL_zero] at SO
      have M2 := Lib.hid (HMA.out.later hb2)
      have B2 := Lib.hid (Below.via hb2 BA.out hza)
      have hz2 := B2.out.size
      clear hown ho2 hb2
      go_wp2_with fail
      refine (l24Ways_any zs c cp A hc150 (k / 2) (by omega) A2 k cap2 (rangeL k) _ HK2.out hnc2 hcm2 SO.out M2.out).mono ?_
      rw [H1.out]
      rintro e w3 ⟨rfl, hb3⟩
      have B3 := Below.via hb3 B2.out hz2
      go_wp2_with fail
      go_ret2
      exact ⟨rfl, B3⟩
set_option maxRecDepth 10000 in
set_option maxHeartbeats 1500000 in
theorem PairingsLeft_any (n : Int) (A : Option Addr) (c cp : Nat) (zs : List Int) (w : World) (hs : Sl w w.heap.size 2 A c (zs.map (Value.int .i64))) (hc : c ≤ 9223372036854775807) (v code : Int) (h : plR n zs c = (v, code)) :
    Calls Try.prog 25 #[.int .i64 n, .slice A c cp] w fun e w' => e = .returned (.tuple #[.int .i64 v, .int .i64 code]) ∧ Below w.heap.size w w' := by
  have HS := Lib.hid hs
  have hl2 : zs.length = c * 2 := by have := hs.1; simpa using this
  cases hv : validM n zs
  case false =>
    rw [plR_no hv] at h
    injection h with h1 h2
    subst h1 h2
    go_enter Try.func25, Try.ntmps25
    go_wp2_with (go_at_call 40; refine (ValidMeetings_any n A c cp zs _ HS.out hc).mono ?_; rintro e w1 ⟨rfl, hb1⟩; obtain ⟨hc1, hf1, hl1, hz1⟩ := bfacts hb1; (try simp only [World.size_alloc, World.size_setCell, World.size_drew] at hz1))
    go_ret2
    exact ⟨rfl, by (repeat' (first | (with_reducible exact Below.refl _ _) | (with_reducible assumption) | (with_reducible refine Below.alloc ?_ ?_ _) | (with_reducible refine Below.drew ?_) | (with_reducible refine belowDrewN ?_ _) | (with_reducible refine Below.setCell ?_ ?_ _) | (with_reducible refine Below.via (by with_reducible assumption) ?_ ?_) | (with_reducible refine Below.viaD (by with_reducible assumption) ?_ ?_) | (with_reducible exact Below.size (by with_reducible assumption)) | go_size | (with_reducible refine Nat.le_trans ?_ (Below.size (by with_reducible assumption))) | (with_reducible refine Nat.le_trans ?_ (sizeAlloc _ _)) | (with_reducible refine Nat.le_trans ?_ (sizeSet _ _ _)) | (with_reducible refine Nat.le_trans ?_ (sizeDrew _))))⟩
  case true =>
    obtain ⟨k, rfl, k1, k2, hl, hz⟩ := validM_of hv
    by_cases hodd : (k : Int) % 2 = 1
    case pos =>
      rw [plR_odd hv hodd] at h
      injection h with h1 h2
      subst h1 h2
      have hb : (((k : Int) % 2) == 1) = true := by rw [beq_iff_eq]; exact hodd
      have hm : (k : Int).tmod 2 = (k : Int) % 2 := Int.tmod_eq_emod_of_nonneg (by omega)
      clear hodd hz hl2
      go_enter Try.func25, Try.ntmps25
      go_wp2_with (go_at_call 40; refine (ValidMeetings_any k A c cp zs _ HS.out hc).mono ?_; rintro e w1 ⟨rfl, hb1⟩; obtain ⟨hc1, hf1, hl1, hz1⟩ := bfacts hb1; (try simp only [World.size_alloc, World.size_setCell, World.size_drew] at hz1))
      go_ret2
      exact ⟨rfl, by (repeat' (first | (with_reducible exact Below.refl _ _) | (with_reducible assumption) | (with_reducible refine Below.alloc ?_ ?_ _) | (with_reducible refine Below.drew ?_) | (with_reducible refine belowDrewN ?_ _) | (with_reducible refine Below.setCell ?_ ?_ _) | (with_reducible refine Below.via (by with_reducible assumption) ?_ ?_) | (with_reducible refine Below.viaD (by with_reducible assumption) ?_ ?_) | (with_reducible exact Below.size (by with_reducible assumption)) | go_size | (with_reducible refine Nat.le_trans ?_ (Below.size (by with_reducible assumption))) | (with_reducible refine Nat.le_trans ?_ (sizeAlloc _ _)) | (with_reducible refine Nat.le_trans ?_ (sizeSet _ _ _)) | (with_reducible refine Nat.le_trans ?_ (sizeDrew _))))⟩
    case neg =>
      rw [plR_yes hv hodd] at h
      injection h with h1 h2
      subst h2
      have H1 := Lib.hid h1
      have hb : (((k : Int) % 2) == 1) = false := by rw [beq_eq_false_iff_ne]; exact hodd
      have hm : (k : Int).tmod 2 = (k : Int) % 2 := Int.tmod_eq_emod_of_nonneg (by omega)
      have hk2 : k = 2 * (k / 2) := by omega
      have HK2 := Lib.hid hk2
      have hc150 : c ≤ 150 := by omega
      have HZ : Hid (∀ j, j < c → 0 ≤ zs.getD (j * 2) 0 ∧ zs.getD (j * 2) 0 < 12 ∧ 0 ≤ zs.getD (j * 2 + 1) 0 ∧ zs.getD (j * 2 + 1) 0 < 12) := fun j hj => by
        have := hz j (by omega)
        omega
      obtain ⟨i0, ti, tz0, tz1, tz2⟩ := info_parts info_i64w
      have HI := Lib.hid (And.intro ti (And.intro tz0 (And.intro tz1 tz2)))
      clear hodd hz hl2 hk2 h1 ti tz0 tz1 tz2
      go_enter Try.func25, Try.ntmps25
      go_wp2_with (go_at_call 40; refine (ValidMeetings_any k A c cp zs _ HS.out hc).mono ?_; rintro e w1 ⟨rfl, hb1⟩; obtain ⟨hc1, hf1, hl1, hz1⟩ := bfacts hb1; (try simp only [World.size_alloc, World.size_setCell, World.size_drew] at hz1))
      have HM := Lib.hid (HS.out.later hb1)
      go_loopw [6, 17] (fun v i wr => ∃ j : Nat, j ≤ k ∧ i = .int .i64 j ∧ wr.ownsRow w1.heap.size 2 1 v j ((rangeL j).map (Value.int .i64)) ∧ Below w1.heap.size w1 wr) (fun _ i _ => k - (intOf i).toNat)
      case atStart => exact ⟨0, Nat.zero_le _, rfl, World.ownsRow_made _ _ 0 (Nat.le_refl _) (Nat.zero_le _) rfl, by (repeat' (first | (with_reducible exact Below.refl _ _) | (with_reducible assumption) | (with_reducible refine Below.alloc ?_ ?_ _) | (with_reducible refine Below.drew ?_) | (with_reducible refine belowDrewN ?_ _) | (with_reducible refine Below.setCell ?_ ?_ _) | (with_reducible refine Below.via (by with_reducible assumption) ?_ ?_) | (with_reducible refine Below.viaD (by with_reducible assumption) ?_ ?_) | (with_reducible exact Below.size (by with_reducible assumption)) | go_size | (with_reducible refine Nat.le_trans ?_ (Below.size (by with_reducible assumption))) | (with_reducible refine Nat.le_trans ?_ (sizeAlloc _ _)) | (with_reducible refine Nat.le_trans ?_ (sizeSet _ _ _)) | (with_reducible refine Nat.le_trans ?_ (sizeDrew _))))⟩
      case round =>
        obtain ⟨j, hj, rfl, hown, hbl⟩ := hrel
        rename World => wo
        have HBL := Lib.hid hbl
        have hzo := hbl.size
        have HOW := Lib.hid hown
        obtain ⟨A1, g1, cap1, rfl, hg1, hnc1, hcm1, ho1⟩ := own_of_row hown
        have SO := Lib.hid ho1.sl
        clear hown ho1 hbl
        by_cases hlt : j < k
        · have HA1 : Hid ((wo.alloc (.cells #[.int .i64 j] 2)).ownsRow w1.heap.size 2 1 (.slice A1 j cap1) j ((rangeL j).map (Value.int .i64))) := row_below HOW.out (Below.alloc (Below.refl _ _) (Nat.le_refl _) _)
          have B4 := Lib.hid (Below.alloc HBL.out hzo (.cells #[.int .i64 j] 2))
          have hz4 := B4.out.size
          go_wp2_with (at_builtin; refine wpList_append_sl _ rfl _ _ 24 rfl w1.heap.size 2 i0 _ 1 8 Try.underlying24 HI.out.1 HI.out.2.1 HI.out.2.2.1 HI.out.2.2.2 rfl (by decide) (.slice A1 j cap1) j ((rangeL j).map (Value.int .i64)) rfl HA1.out (wo.heap.size + 1) _ 1 1 [.int .i64 j] rfl (Sl.built rfl (Nat.lt_succ_self _) rfl) ?c1 ?c2 ?c3 ?c4 ?_)
          case c1 => intro u hu; simp at hu; subst hu; rfl
          case c2 => unfold maxLen; omega
          case c3 => omega
          case c4 => exact hz4
          intro v2 w2 hown2 hg2 _
          have B5 := Lib.hid (below_app B4.out HA1.out hg2 (Nat.le_refl _) hz4)
          have HO2 := Lib.hid hown2
          clear hown2 hg2
          go_wp2_with fail
          go_roundw
          case rel =>
            have h := HO2.out
            refine ⟨j + 1, by omega, by go_num, ?_, B5.out⟩
            rw [rangeL_succ, List.map_append]
            exact h
          case measure => first | (simp [intOf]; done) | (simp [intOf]; omega)
        · obtain rfl : j = k := by omega
          have M1 := Lib.hid (HM.out.later HBL.out)
          have B1 := Lib.hid (Below.via HBL.out hb1 hz1)
          have hz1 := B1.out.size
          go_wp2_with fail
          refine (newPairer_any A c cp zs _ M1.out hc150 HZ.out).mono ?_
          rintro e w2 ⟨rfl, hblk, hb2⟩
          have HB := Lib.hid hblk
          have B2 := Lib.hid (Below.via hb2 B1.out hz1)
          have S2 := Lib.hid (SO.out.later hb2)
          have hz2 := B2.out.size
          clear hblk hb2
          go_wp2_with fail
          refine (ways_any zs c _ (j / 2) (by omega) A1 j cap1 (rangeL j) _ HK2.out hnc1 hcm1 S2.out (fun x hx => by have := rangeL_mem hx; omega) HB.out).mono ?_
          rw [H1.out]
          rintro e w3 ⟨rfl, hb3⟩
          have B3 := Below.via hb3 B2.out hz2
          go_wp2_with fail
          go_ret2
          exact ⟨rfl, B3⟩
end Go.Proofs.Yteeplmnjipddaaa
