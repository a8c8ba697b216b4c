/- FnTies: the law. No conditions. -/
import Derived.Test.YtlogcbiebpfmlaaTi1
import Derived.Test.YtlogcbiebpfmlaaStand10
import Derived.Test.YtlogcbiebpfmlaaDirect2
import Derived.Test.YtlogcbiebpfmlaaDrop2
namespace Go.Proofs.Ytlogcbiebpfmlaa
set_option linter.unusedSimpArgs false
set_option linter.unusedVariables false
open Go.RowKit Go.WideShapes

theorem dOne_sw {a b x y s : Int} (h : a ≠ b) : dOne b a x y s = dTwo a b x y s := by
  unfold dOne dTwo
  by_cases h1 : x = a <;> by_cases h2 : y = b <;> by_cases h3 : x = b <;> by_cases h4 : y = a <;> simp [h1, h2, h3, h4] <;> omega
theorem dTwo_sw {a b x y s : Int} (h : a ≠ b) : dTwo b a x y s = dOne a b x y s := by
  unfold dOne dTwo
  by_cases h1 : x = a <;> by_cases h2 : y = b <;> by_cases h3 : x = b <;> by_cases h4 : y = a <;> simp [h1, h2, h3, h4] <;> omega
theorem dS_sw (vs : List Value) {a b : Int} (h : a ≠ b) (k : Nat) : dS1 vs b a k = dS2 vs a b k ∧ dS2 vs b a k = dS1 vs a b k := by
  induction k with
  | zero => exact ⟨rfl, rfl⟩
  | succ k ih => rw [dS1, dS2, dS1, dS2, ih.1, ih.2, dOne_sw h, dTwo_sw h]; exact ⟨rfl, rfl⟩
theorem dsR_sw {n a b : Int} {vs : List Value} {c : Nat} {x y : Int} (h : dsR n a b vs c = (x, y, 0)) : dsR n b a vs c = (y, x, 0) := by
  unfold dsR at h ⊢
  cases hv : validMs n vs
  · rw [hv] at h; injection h with _ h2; injection h2 with _ h3; exact absurd h3 (by decide)
  · rw [hv] at h
    rw [if_pos rfl] at h ⊢
    by_cases hc : (inB a 0 (n - 1) && inB b 0 (n - 1) && !(a == b)) = true
    · rw [if_pos hc] at h
      simp only [Bool.and_eq_true, Bool.not_eq_true', beq_eq_false_iff_ne] at hc
      rw [if_pos (by rw [hc.1.1, hc.1.2, beq_eq_false_iff_ne.2 (Ne.symm hc.2)]; rfl), (dS_sw vs hc.2 c).1, (dS_sw vs hc.2 c).2]
      injection h with h1 h2; injection h2 with h3 _
      rw [h1, h3]
    · rw [if_neg hc] at h; injection h with _ h2; injection h2 with _ h3; exact absurd h3 (by decide)
theorem mem_tdZ {Z : List Int} {x t : Int} {k : Nat} (h : t ∈ tdZ Z x k) : ∃ i : Nat, i < k ∧ t = i ∧ Z.getD i 0 = x := by
  induction k with
  | zero => simp [tdZ] at h
  | succ k ih =>
    rw [tdZ] at h
    rcases List.mem_append.1 h with h | h
    · obtain ⟨i, hi, e⟩ := ih h; exact ⟨i, by omega, e⟩
    · by_cases hq : (Z.getD k 0 == x) = true
      · rw [if_pos hq] at h; exact ⟨k, by omega, List.mem_singleton.1 h, beq_iff_eq.1 hq⟩
      · rw [if_neg hq] at h; simp at h
theorem tdZ_mem {Z : List Int} {x : Int} {k i : Nat} (hi : i < k) (h : Z.getD i 0 = x) : (i : Int) ∈ tdZ Z x k := by
  induction k with
  | zero => omega
  | succ k ih =>
    rw [tdZ]
    by_cases hk : i < k
    · exact List.mem_append_left _ (ih hk)
    · obtain rfl : i = k := by omega
      exact List.mem_append_right _ (by rw [if_pos (beq_iff_eq.2 h)]; exact List.mem_singleton.2 rfl)
theorem tied_head {n p : Int} {vs : List Value} {c : Nat} {l : List Int} (h : tiedR n p vs c = (l, 0)) : ∃ t, 0 < l.length ∧ l.getD 0 0 = t ∧ tiedR n t vs c = (l, 0) := by
  unfold tiedR at h
  cases hv : validMs n vs
  · rw [hv] at h; injection h with _ h2; exact absurd h2 (by decide)
  · rw [hv, if_pos rfl] at h
    by_cases hc : inB p 0 (n - 1) = true
    · rw [if_pos hc] at h
      injection h with h1 _
      obtain ⟨p0, p1⟩ := inB_of hc
      have hmem : ((p.toNat : Nat) : Int) ∈ l := by rw [← h1]; exact tdZ_mem (by omega) rfl
      have hlen : 0 < l.length := List.length_pos_of_mem hmem
      refine ⟨l.getD 0 0, hlen, rfl, ?_⟩
      have hh : l.getD 0 0 ∈ l := by rw [List.getD_eq_getElem?_getD, List.getElem?_eq_getElem hlen]; exact List.getElem_mem _
      obtain ⟨i, hi, e1, e2⟩ := mem_tdZ (by rw [h1]; exact hh)
      rw [e1]
      unfold tiedR
      rw [hv, if_pos rfl, if_pos (inB_t (by omega) (by omega)), Int.toNat_natCast, e2, h1]
    · rw [if_neg hc] at h; injection h with _ h2; exact absurd h2 (by decide)
theorem dropM_no (vs : List Value) (p : Int) (k : Nat) : ∀ m ∈ dropM vs p k, m.1 ≠ p ∧ m.2.1 ≠ p := by
  induction k with
  | zero => simp [dropM]
  | succ k ih =>
    intro m hm
    rw [dropM] at hm
    rcases List.mem_append.1 hm with h | h
    · exact ih m h
    · by_cases hq : (intAt vs (k * 4) != p && intAt vs (k * 4 + 1) != p) = true
      · rw [if_pos hq] at h
        rw [List.mem_singleton.1 h]
        simpa using hq
      · rw [if_neg hq] at h; simp at h
theorem drR_no {n p : Int} {vs : List Value} {c : Nat} {ms : List (Int × Int × Int × Bool)} {code : Int} (h : drR n p vs c = (ms, code)) : ∀ m ∈ ms, m.1 ≠ p ∧ m.2.1 ≠ p := by
  unfold drR at h
  split at h
  · split at h
    · injection h with h1 _; rw [← h1]; exact dropM_no _ _ _
    · injection h with h1 _; rw [← h1]; simp
  · injection h with h1 _; rw [← h1]; simp
theorem drR_len {n p : Int} {vs : List Value} {c : Nat} {ms : List (Int × Int × Int × Bool)} {code : Int} (h : drR n p vs c = (ms, code)) : ms.length ≤ c := by
  unfold drR at h
  split at h
  · split at h
    · injection h with h1 _; rw [← h1]; exact dropM_len _ _ _
    · injection h with h1 _; rw [← h1]; simp
  · injection h with h1 _; rw [← h1]; simp
theorem tied_len {n p : Int} {vs : List Value} {c : Nat} {l : List Int} {code : Int} (h : tiedR n p vs c = (l, code)) (hn : n ≤ 13) : l.length ≤ 13 := by
  unfold tiedR at h
  split at h
  · split at h
    · injection h with h1 _; rw [← h1]; exact Nat.le_trans (tdZ_len _ _ _) (by omega)
    · injection h with h1 _; rw [← h1]; simp
  · injection h with h1 _; rw [← h1]; simp
theorem flatM_get : ∀ (ms : List (Int × Int × Int × Bool)) (k : Nat) (hk : k < ms.length), (flatM ms)[k * 4]? = some (.int .i64 ms[k].1) ∧ (flatM ms)[k * 4 + 1]? = some (.int .i64 ms[k].2.1) ∧ (flatM ms)[k * 4 + 2]? = some (.int .i64 ms[k].2.2.1) ∧ (flatM ms)[k * 4 + 3]? = some (.bool ms[k].2.2.2)
  | [], k, hk => absurd hk (by simp)
  | m :: ms, 0, _ => ⟨rfl, rfl, rfl, rfl⟩
  | m :: ms, k + 1, hk => by
    have h := flatM_get ms k (by simp at hk; omega)
    have e : ∀ j, (flatM (m :: ms))[(k + 1) * 4 + j]? = (flatM ms)[k * 4 + j]? := by
      intro j
      rw [flatM, List.getElem?_append_right (by simp [cellsM]; omega)]
      congr 1
      simp [cellsM]; omega
    have e0 := e 0
    rw [Nat.add_zero, Nat.add_zero] at e0
    rw [e0, e 1, e 2, e 3]
    exact h
set_option maxRecDepth 100000 in
set_option maxHeartbeats 8000000 in
theorem fnTies_walk (A : Option Addr) (n c : Nat) (cs : List Int) (w : World) (hs : Sl w w.heap.size 1 A n (cs.map (Value.int .u8))) (hm : n ≤ 9223372036854775807) (hb : ∀ z ∈ cs, 0 ≤ z ∧ z ≤ 255) :
    Calls Try.prog 3 #[.slice A n c] w fun e w' => e = .returned (.bool true) ∧ Below w.heap.size w w' := by
  have HS := Lib.hid hs
  have HB := Lib.hid hb
  clear hs hb
  go_enter Try.func3, Try.ntmps3
  go_wp2_with fail
  refine (f6big_any A n c _).mono ?_
  rintro e w_ ⟨q, rfl, hq, rfl⟩
  cases q
  case true =>
    go_wp2_with fail
    go_ret
    exact ⟨rfl, by (repeat' (first | (with_reducible exact Below.refl _ _) | (with_reducible assumption) | (with_reducible refine Below.alloc ?_ ?_ _) | (with_reducible refine Below.drew ?_) | (with_reducible refine belowDrewN ?_ _) | (with_reducible refine Below.setCell ?_ ?_ _) | (with_reducible refine Below.via (by with_reducible assumption) ?_ ?_) | (with_reducible refine Below.viaD (by with_reducible assumption) ?_ ?_) | (with_reducible exact Below.size (by with_reducible assumption)) | go_size | (with_reducible refine Nat.le_trans ?_ (Below.size (by with_reducible assumption))) | (with_reducible refine Nat.le_trans ?_ (sizeAlloc _ _)) | (with_reducible refine Nat.le_trans ?_ (sizeSet _ _ _)) | (with_reducible refine Nat.le_trans ?_ (sizeDrew _))))⟩
  case false =>
  have hn := hq rfl
  clear hq
  go_wp2_with fail
  refine (DrawTiedWith_any A n c cs _ HS.out HB.out (by omega)).mono ?_
  rintro e w1 ⟨N, p, v, j, vs, rfl, n0, n1, hj, ht, hown, h1⟩
  have B1 := Lib.hid h1
  have HS1 := Lib.hid (HS.out.later h1)
  obtain ⟨A', g, cap, rfl, hg, hnc, hcm, ho⟩ := own_of_row hown
  have SL1 := Lib.hid ho.sl
  have HT := Lib.hid ht
  clear h1 hown ho ht
  obtain ⟨l, code, hR⟩ : ∃ l code, tiedR N p vs j = (l, code) := ⟨_, _, rfl⟩
  have HR := Lib.hid hR
  have hll := tied_len hR n1
  clear hR
  go_wp2_with fail
  refine (TiedWith_any N p A' j cap vs _ SL1.out HT.out (by omega) l code HR.out).mono ?_
  rintro e w2 ⟨A2, g2, cap2, rfl, hg2, o2, h2⟩
  have B2 := Lib.hid (Below.via h2 B1.out B1.out.size)
  have SL2 := Lib.hid (SL1.out.later h2)
  have HS2 := Lib.hid (HS1.out.later h2)
  have T2 := Lib.hid o2.sl
  clear h2 o2
  go_wp2_with fail
  refine (sTiedWith_any N p A' j cap vs _ SL2.out HT.out (by omega) l code HR.out).mono ?_
  rintro e w3 ⟨A3, g3, cap3, rfl, hg3, o3, h3⟩
  have B3 := Lib.hid (Below.via h3 B2.out B2.out.size)
  have SL3 := Lib.hid (SL2.out.later h3)
  have HS3 := Lib.hid (HS2.out.later h3)
  have T3 := Lib.hid (T2.out.later h3)
  have M3 := Lib.hid o3.sl
  clear h3 o3
  go_wp2_with fail
  refine (DrawDirectScore_any A n c cs _ HS3.out HB.out (by omega)).mono ?_
  rintro e w4 ⟨N4, a, b, v4, j4, vs4, rfl, n40, n41, hj4, ht4, hown4, h4⟩
  have B4 := Lib.hid (Below.via h4 B3.out B3.out.size)
  have SL4 := Lib.hid (SL3.out.later h4)
  have T4 := Lib.hid (T3.out.later h4)
  have M4 := Lib.hid (M3.out.later h4)
  obtain ⟨A4, g4, cap4, rfl, hg4, hnc4, hcm4, ho4⟩ := own_of_row hown4
  have D4 := Lib.hid ho4.sl
  have HT4 := Lib.hid ht4
  clear h4 hown4 ho4 ht4
  obtain ⟨x, y, z, hD⟩ : ∃ x y z, dsR N4 a b vs4 j4 = (x, y, z) := ⟨_, _, _, rfl⟩
  have HD := Lib.hid hD
  clear hD
  go_wp2_with fail
  refine (DirectScore_any N4 a b A4 j4 cap4 vs4 _ D4.out HT4.out (by omega) x y z HD.out).mono ?_
  rintro e w5 ⟨rfl, h5⟩
  have B5 := Lib.hid (Below.via h5 B4.out B4.out.size)
  have SL5 := Lib.hid (SL4.out.later h5)
  have T5 := Lib.hid (T4.out.later h5)
  have M5 := Lib.hid (M4.out.later h5)
  have D5 := Lib.hid (D4.out.later h5)
  clear h5
  go_wp2_with fail
  refine (sDirectScore_any N4 a b A4 j4 cap4 vs4 _ D5.out HT4.out (by omega) x y z HD.out).mono ?_
  rintro e w6 ⟨rfl, h6⟩
  have B6 := Lib.hid (Below.via h6 B5.out B5.out.size)
  have SL6 := Lib.hid (SL5.out.later h6)
  have T6 := Lib.hid (T5.out.later h6)
  have M6 := Lib.hid (M5.out.later h6)
  have D6 := Lib.hid (D5.out.later h6)
  clear h6
  obtain ⟨ms, code2, hE⟩ : ∃ l code, drR N p vs j = (l, code) := ⟨_, _, rfl⟩
  have HE := Lib.hid hE
  have HNO := Lib.hid (drR_no hE)
  have hml := drR_len hE
  clear hE
  go_wp2_with fail
  refine (DropPlayer_any N p A' j cap vs _ SL6.out HT.out (by omega) ms code2 HE.out).mono ?_
  rintro e w7 ⟨A7, g7, cap7, rfl, hg7, o7, h7⟩
  have B7 := Lib.hid (Below.via h7 B6.out B6.out.size)
  have SL7 := Lib.hid (SL6.out.later h7)
  have T7 := Lib.hid (T6.out.later h7)
  have M7 := Lib.hid (M6.out.later h7)
  have D7 := Lib.hid (D6.out.later h7)
  have L7 := Lib.hid o7.sl
  clear h7 o7
  go_wp2_with fail
  refine (sDropPlayer_any N p A' j cap vs _ SL7.out HT.out (by omega) ms code2 HE.out).mono ?_
  rintro e w8 ⟨A8, g8, cap8, rfl, hg8, o8, h8⟩
  have B8 := Lib.hid (Below.via h8 B7.out B7.out.size)
  have SL8 := Lib.hid (SL7.out.later h8)
  have T8 := Lib.hid (T7.out.later h8)
  have M8 := Lib.hid (M7.out.later h8)
  have D8 := Lib.hid (D7.out.later h8)
  have L8 := Lib.hid (L7.out.later h8)
  have R8 := Lib.hid o8.sl
  clear h8 o8
  obtain ⟨q, hq⟩ : ∃ q, ms.length = q := ⟨_, rfl⟩
  obtain ⟨r, hr⟩ : ∃ r, l.length = r := ⟨_, rfl⟩
  rw [hq] at hml L8 R8
  rw [hr] at hll T8 M8
  have HQ := Lib.hid hq
  have HLR := Lib.hid hr
  rw [hq, hr]
  clear hq hr
  have hqf : q ≤ 160 := by omega
  have X1 : Hid (∀ Q : Ending → World → Prop, (∀ w', Below w8.heap.size w8 w' → Q (.returned (.bool true)) w') → Calls Try.prog 13 #[.slice A2 r cap2, .slice A3 r cap3] w8 Q) := fun Q hQ => (f6ints_same A2 A3 r cap2 cap3 l _ T8.out M8.out (by omega)).mono (by rintro e w' ⟨rfl, h⟩; exact hQ _ h)
  go_wp2_with (go_at_call 13; (with_reducible refine X1.out _ ?_); intro w9 h9)
  have B9 := Lib.hid (Below.via h9 B8.out B8.out.size)
  have hz9 := B9.out.size
  have SL9 := Lib.hid (SL8.out.later h9)
  have T9 := Lib.hid (T8.out.later h9)
  have M9 := Lib.hid (M8.out.later h9)
  have D9 := Lib.hid (D8.out.later h9)
  have L9 := Lib.hid (L8.out.later h9)
  have R9 := Lib.hid (R8.out.later h9)
  clear h9 X1
  go_loopw [24] (fun i wr => ∃ k : Nat, k ≤ q ∧ i = .int .i64 k ∧ Below w9.heap.size w9 wr) (fun i _ => q - (intOf i).toNat)
  case atStart => exact ⟨0, Nat.zero_le _, rfl, Below.refl _ _⟩
  case round =>
    obtain ⟨k, hk, rfl, hbl⟩ := hrel
    have HBL := Lib.hid hbl
    by_cases hlt : k < q
    · obtain ⟨b1, o1, rfl, hb1, _, hc1⟩ := (L9.out.below hbl).cellV hlt
      obtain ⟨b2, o2, rfl, hb2, _, hc2⟩ := (R9.out.below hbl).cellV hlt
      have hkm : k < ms.length := by rw [HQ.out]; exact hlt
      obtain ⟨e0, e1, e2, e3⟩ := flatM_get ms k hkm
      have hno := HNO.out _ (List.getElem_mem hkm)
      obtain ⟨x0, hx0⟩ : ∃ x, ms[k].1 = x := ⟨_, rfl⟩
      obtain ⟨x1, hx1⟩ : ∃ x, ms[k].2.1 = x := ⟨_, rfl⟩
      obtain ⟨x2, hx2⟩ : ∃ x, ms[k].2.2.1 = x := ⟨_, rfl⟩
      obtain ⟨x3, hx3⟩ : ∃ x, ms[k].2.2.2 = x := ⟨_, rfl⟩
      rw [hx0] at e0 hno
      rw [hx1] at e1 hno
      rw [hx2] at e2
      rw [hx3] at e3
      have c0 := hc1 0 _ (by omega) e0
      have c1 := hc1 1 _ (by omega) e1
      have c2 := hc1 2 _ (by omega) e2
      have c3 := hc1 3 _ (by omega) e3
      have d0 := hc2 0 _ (by omega) e0
      have d1 := hc2 1 _ (by omega) e1
      have d2 := hc2 2 _ (by omega) e2
      have d3 := hc2 3 _ (by omega) e3
      rw [Nat.add_zero] at c0 d0
      rw [← Nat.add_assoc] at c1 c2 c3 d1 d2 d3
      have hp0 : (x0 == p) = false := by rw [beq_eq_false_iff_ne]; exact hno.1
      have hp1 : (x1 == p) = false := by rw [beq_eq_false_iff_ne]; exact hno.2
      clear hx0 hx1 hx2 hx3 hc1 hc2 e0 e1 e2 e3 hno hbl hkm
      go_wp2_with fail
      go_region
      go_wp2_with fail
      go_roundw
      case rel => exact ⟨k + 1, by omega, by go_num, belowDrewN HBL.out _⟩
      case measure => first | (simp [intOf]; done) | (simp [intOf]; omega)
    · obtain rfl : q = k := by omega
      have B10 := Lib.hid (Below.via HBL.out B9.out hz9)
      have hz10 := B10.out.size
      have SLa := Lib.hid (SL9.out.later hbl)
      have Ta := Lib.hid (T9.out.later hbl)
      have Ma := Lib.hid (M9.out.later hbl)
      have Da := Lib.hid (D9.out.later hbl)
      clear hbl
      by_cases hz : z = 0
      · subst hz
        have HDS := Lib.hid (dsR_sw HD.out)
        go_wp2_with fail
        refine (DirectScore_any N4 b a A4 j4 cap4 vs4 _ Da.out HT4.out (by omega) y x 0 HDS.out).mono ?_
        rintro e wb ⟨rfl, hb5⟩
        have Bb := Lib.hid (Below.via hb5 B10.out hz10)
        have SLb := Lib.hid (SLa.out.later hb5)
        have Tb := Lib.hid (Ta.out.later hb5)
        have Mb := Lib.hid (Ma.out.later hb5)
        clear hb5
        by_cases hcd : code = 0
        · subst hcd
          obtain ⟨t, hl0, hlt0, hTT⟩ := tied_head HR.out
          have HTT := Lib.hid hTT
          rw [HLR.out] at hl0
          obtain ⟨b6, o6, t', rfl, hb6, HZ, c6⟩ := Mb.out.int hl0
          have htt : t' = t := by rw [← HZ.out]; exact hlt0
          subst htt
          clear hlt0 hTT
          rw [Nat.add_zero] at c6
          go_wp2_with fail
          refine (TiedWith_any N t' A' j cap vs _ SLb.out HT.out (by omega) l 0 HTT.out).mono ?_
          rintro e wx ⟨Ax, gx, capx, rfl, hgx, ox, hx⟩
          have BX := Lib.hid (Below.via hx Bb.out Bb.out.size)
          have TX := Lib.hid (Tb.out.later hx)
          have OX := ox.sl
          rw [HLR.out] at OX
          rw [HLR.out]
          have X2 : Hid (∀ Q : Ending → World → Prop, (∀ w', Below wx.heap.size wx w' → Q (.returned (.bool true)) w') → Calls Try.prog 13 #[.slice Ax r capx, .slice A2 r cap2] wx Q) := fun Q hQ => (f6ints_same Ax A2 r capx cap2 l _ OX TX.out (by omega)).mono (by rintro e w' ⟨rfl, h⟩; exact hQ _ h)
          clear hx ox OX
          go_wp2_with (go_at_call 13; (with_reducible refine X2.out _ ?_); intro wy hy)
          go_ret
          exact ⟨rfl, Below.via hy BX.out BX.out.size⟩
        · have hcb : (code != 0) = true := by rw [bne_iff_ne]; exact hcd
          clear hcd
          go_wp2_with fail
          go_ret
          exact ⟨rfl, Bb.out⟩

      · have hzb : (z == 0) = false := by rw [beq_eq_false_iff_ne]; exact hz
        clear hz
        by_cases hcd : code = 0
        · subst hcd
          obtain ⟨t, hl0, hlt0, hTT⟩ := tied_head HR.out
          have HTT := Lib.hid hTT
          rw [HLR.out] at hl0
          obtain ⟨b6, o6, t', rfl, hb6, HZ, c6⟩ := Ma.out.int hl0
          have htt : t' = t := by rw [← HZ.out]; exact hlt0
          subst htt
          clear hlt0 hTT
          rw [Nat.add_zero] at c6
          go_wp2_with fail
          refine (TiedWith_any N t' A' j cap vs _ SLa.out HT.out (by omega) l 0 HTT.out).mono ?_
          rintro e wx ⟨Ax, gx, capx, rfl, hgx, ox, hx⟩
          have BX := Lib.hid (Below.via hx B10.out B10.out.size)
          have TX := Lib.hid (Ta.out.later hx)
          have OX := ox.sl
          rw [HLR.out] at OX
          rw [HLR.out]
          have X2 : Hid (∀ Q : Ending → World → Prop, (∀ w', Below wx.heap.size wx w' → Q (.returned (.bool true)) w') → Calls Try.prog 13 #[.slice Ax r capx, .slice A2 r cap2] wx Q) := fun Q hQ => (f6ints_same Ax A2 r capx cap2 l _ OX TX.out (by omega)).mono (by rintro e w' ⟨rfl, h⟩; exact hQ _ h)
          clear hx ox OX
          go_wp2_with (go_at_call 13; (with_reducible refine X2.out _ ?_); intro wy hy)
          go_ret
          exact ⟨rfl, Below.via hy BX.out BX.out.size⟩
        · have hcb : (code != 0) = true := by rw [bne_iff_ne]; exact hcd
          clear hcd
          go_wp2_with fail
          go_ret
          exact ⟨rfl, B10.out⟩

end Go.Proofs.Ytlogcbiebpfmlaa
