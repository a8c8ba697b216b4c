/- PairByPoints: the plain result, and the reference. No conditions beyond lengths. -/
import Derived.Test.YteeplmnjipddaaaPr3
namespace Go.Proofs.Yteeplmnjipddaaa
set_option linter.unusedSimpArgs false
set_option linter.unusedVariables false
open Go.RowKit Go.WideShapes

theorem tryN_ok {met : Int → Int → Bool} {n : Nat} {L r : List Int} (hl : L.length = n) (h : tryN met n L = some r) : r.length = 2 * (n / 2) ∧ okPr met r ∧ ∃ L', L'.Sublist L ∧ r.Perm L' := by
  by_cases hev : n % 2 = 0
  · rw [tryN_even hev] at h
    obtain ⟨p, o, l⟩ := pairN_ok met (n / 2) L r (by omega) h
    exact ⟨l, o, L, List.Sublist.refl _, p⟩
  · rw [tryN_odd (by omega)] at h
    obtain ⟨k, hk, e⟩ := firstS_of h
    obtain ⟨p, o, l⟩ := pairN_ok met (n / 2) _ r (by rw [leave_len (by omega)]; omega) e
    exact ⟨l, o, _, leave_sub _ _, p⟩
def fsL (n : Nat) (zs : List Int) (c : Nat) : List Int := fstL n zs c
/-- What PairByPoints returns: a list of meetings, their number, and a code. -/
def pbR (pts zs : List Int) (n c : Nat) : List Int × Nat × Int :=
  if validM n zs then match tryN (fun a b => metB zs a b c) n (ordL (ptF pts) n) with
    | some r => (flipL (fstL n zs c) r (n / 2), n / 2, 0)
    | none => ([], 0, 3)
  else ([], 0, 1)
theorem pbR_bad {pts zs : List Int} {n c : Nat} (h : validM n zs = false) : pbR pts zs n c = ([], 0, 1) := by rw [pbR, h]; rfl
theorem pbR_none {pts zs : List Int} {n c : Nat} (h : validM n zs = true) (h2 : tryN (fun a b => metB zs a b c) n (ordL (ptF pts) n) = none) : pbR pts zs n c = ([], 0, 3) := by rw [pbR, h, if_pos rfl, h2]
theorem pbR_some {pts zs r : List Int} {n c : Nat} (h : validM n zs = true) (h2 : tryN (fun a b => metB zs a b c) n (ordL (ptF pts) n) = some r) : pbR pts zs n c = (flipL (fstL n zs c) r (n / 2), n / 2, 0) := by rw [pbR, h, if_pos rfl, h2]
theorem try_mem {pts zs r : List Int} {n c : Nat} (h2 : tryN (fun a b => metB zs a b c) n (ordL (ptF pts) n) = some r) : r.length = 2 * (n / 2) ∧ ∀ j, j < 2 * (n / 2) → 0 ≤ r.getD j 0 ∧ r.getD j 0 < n := by
  obtain ⟨hl, _, L', hs, hp⟩ := tryN_ok (ordL_len _ _) h2
  refine ⟨hl, fun j hj => ?_⟩
  have hm : r.getD j 0 ∈ r := getD_mem 0 (by omega)
  exact ordL_mem (ptF pts) n _ (hs.subset (hp.mem_iff.1 hm))
theorem arr_get2 {l : List Int} {rest : List Value} {j : Nat} (h : j < l.length) : ((l.map (Value.int .i64) ++ rest).toArray)[j]? = some (.int .i64 (l.getD j 0)) := by
  rw [List.getElem?_toArray, List.getElem?_append_left (by simpa using h)]
  exact getD_map_int h
theorem arr_set2 (l : List Int) (rest : List Value) {j : Nat} (h : j < l.length) (x : Int) : ((l.map (Value.int .i64) ++ rest).toArray).setIfInBounds j (.int .i64 x) = ((l.set j x).map (Value.int .i64) ++ rest).toArray := by
  rw [List.setIfInBounds_toArray, List.set_append_left _ _ (by simpa using h), ← List.map_set]
/-- What both functions return. -/
def PbPost (l : List Int) (q : Nat) (code : Int) (w : World) (e : Ending) (w' : World) : Prop :=
  ∃ (A : Option Addr) (g cap : Nat), e = .returned (.tuple #[.slice A q cap, .int .i64 code]) ∧ w.heap.size ≤ g ∧ OwnV w' g 52 2 A q (l.map (Value.int .i64)) ∧ Below w.heap.size w w'
theorem flipL_yes {fs l : List Int} {k : Nat} {a b : Int} (ha : l.getD (2 * k) 0 = a) (hb : l.getD (2 * k + 1) 0 = b) (h : fs.getD b.toNat 0 < fs.getD a.toNat 0) : flipL fs l (k + 1) = ((flipL fs l k).set (2 * k) b).set (2 * k + 1) a := by rw [flipL, ha, hb, if_pos h]
theorem flipL_no {fs l : List Int} {k : Nat} {a b : Int} (ha : l.getD (2 * k) 0 = a) (hb : l.getD (2 * k + 1) 0 = b) (h : ¬ fs.getD b.toNat 0 < fs.getD a.toNat 0) : flipL fs l (k + 1) = flipL fs l k := by rw [flipL, ha, hb, if_neg h]
theorem blk_setO {w : World} {g : Nat} {t : TypeId} {cs : Array Value} (h : Blk w g t cs) {p : Addr} (u : Value) (hne : g ≠ p.block) : Blk (w.setCell p u) g t cs := (Below.heap_setCell w p u g hne).trans h
theorem grown_dr1 {a w : World} {row : Option Nat} (h : a.grownBy w row) : a.grownBy w.drew row := ⟨h.os, h.tape, h.output, h.size, h.block⟩
/-- A flip in the list's own block. -/
theorem flip_blk {wo : World} {g g' k Q : Nat} {t t' : TypeId} {l l' : List Int} {rest : List Value} {cs : Array Value} {a b : Int} {o : Obj} {w4 : World} (h : Blk wo g t ((l.map (Value.int .i64) ++ rest).toArray)) (hl : l.length = Q * 2) (hk : k < Q) (h2 : Blk wo g' t' cs) (hne : g ≠ g') (hl' : l' = (l.set (k * 2) b).set (k * 2 + 1) a) (hg : w4.grownBy wo (some g)) :
    Blk (((wo.setCell ⟨g, k * 2, none⟩ (.int .i64 b)).setCell ⟨g, k * 2 + 1, none⟩ (.int .i64 a)).alloc o).drew g t ((l'.map (Value.int .i64) ++ rest).toArray) ∧ Blk (((wo.setCell ⟨g, k * 2, none⟩ (.int .i64 b)).setCell ⟨g, k * 2 + 1, none⟩ (.int .i64 a)).alloc o).drew g' t' cs ∧ w4.grownBy (((wo.setCell ⟨g, k * 2, none⟩ (.int .i64 b)).setCell ⟨g, k * 2 + 1, none⟩ (.int .i64 a)).alloc o).drew (some g) := by
  refine ⟨?_, ?_, ?_⟩
  · rw [hl', ← arr_set2 _ _ (by rw [List.length_set, hl]; omega), ← arr_set2 _ _ (by rw [hl]; omega)]
    exact ((h.set _ _).set _ _).later (belowDrewN (Below.alloc (Below.refl _ _) (Nat.le_refl _) _) 1)
  · exact (blk_setO (blk_setO h2 _ (fun e => hne e.symm)) _ (fun e => hne e.symm)).later (belowDrewN (Below.alloc (Below.refl _ _) (Nat.le_refl _) _) 1)
  · exact grown_dr1 (grown_alloc (only_setCell (only_setCell hg (.inl rfl) _) (.inl rfl) _) _)
set_option maxRecDepth 10000 in
set_option maxHeartbeats 1500000 in
theorem sPairByPoints_any (A1 : Option Addr) (n cp : Nat) (pts : List Int) (A : Option Addr) (c cp2 : Nat) (zs : List Int) (w : World) (hp : Sl w w.heap.size 1 A1 n (pts.map (Value.int .i64))) (hs : Sl w w.heap.size 2 A c (zs.map (Value.int .i64))) (hn : n ≤ 9223372036854775807) (hc : c ≤ 9223372036854775807) (l : List Int) (q : Nat) (code : Int) (h : pbR pts zs n c = (l, q, code)) :
    Calls Try.prog 16 #[.slice A1 n cp, .slice A c cp2] w (PbPost l q code w) := by
  have HS := Lib.hid hs
  have HP := Lib.hid hp
  have hl2 : zs.length = c * 2 := by have := hs.1; simpa using this
  cases hv : validM n zs
  case false =>
    rw [pbR_bad hv] at h
    injection h with h1 h2
    injection h2 with h2 h3
    subst h1 h2 h3
    clear hs hp hl2
    go_enter Try.func16, Try.ntmps16
    go_wp2_with (go_at_call 35; refine (l24Ok_any n A c cp2 zs _ HS.out hc).mono ?_; rintro e w1 ⟨rfl, hb1⟩; obtain ⟨hc1, hf1, hl1, hz1⟩ := bfacts hb1; (try simp only [World.size_alloc, World.size_setCell, World.size_drew] at hz1))
    go_ret2
    exact ⟨none, w.heap.size, 0, rfl, Nat.le_refl _, OwnV.none _ _ _ _ _, by (repeat' (first | (with_reducible exact Below.refl _ _) | (with_reducible assumption) | (with_reducible refine Below.alloc ?_ ?_ _) | (with_reducible refine Below.drew ?_) | (with_reducible refine belowDrewN ?_ _) | (with_reducible refine Below.setCell ?_ ?_ _) | (with_reducible refine Below.via (by with_reducible assumption) ?_ ?_) | (with_reducible refine Below.viaD (by with_reducible assumption) ?_ ?_) | (with_reducible exact Below.size (by with_reducible assumption)) | go_size | (with_reducible refine Nat.le_trans ?_ (Below.size (by with_reducible assumption))) | (with_reducible refine Nat.le_trans ?_ (sizeAlloc _ _)) | (with_reducible refine Nat.le_trans ?_ (sizeSet _ _ _)) | (with_reducible refine Nat.le_trans ?_ (sizeDrew _))))⟩
  case true =>
    obtain ⟨k, hnk, k1, k2, hl, hz⟩ := validM_of hv
    obtain rfl : n = k := by omega
    have hc150 : c ≤ 150 := by omega
    have HZ : Hid (∀ j, j < c → 0 ≤ zs.getD (j * 2) 0 ∧ zs.getD (j * 2) 0 < n) := fun j hj => ⟨(hz j (by omega)).1, (hz j (by omega)).2.1⟩
    obtain ⟨t, ht⟩ : ∃ t, tryN (fun a b => metB zs a b c) n (ordL (ptF pts) n) = t := ⟨_, rfl⟩
    obtain ⟨l5, q5, ok5, hr5⟩ : ∃ l5 q5 ok5, prD (n / 2) t = (l5, q5, ok5) := ⟨_, _, _, rfl⟩
    have HR5 : Hid (prD (n / 2) (tryN (fun a b => metB zs a b c) n (ordL (ptF pts) n)) = (l5, q5, ok5)) := by unfold Hid; rw [ht]; exact hr5
    have HV := Lib.hid hv
    have HT := Lib.hid ht
    have HH := Lib.hid h
    clear hs hp hl2 hz hl hnk ht h
    go_enter Try.func16, Try.ntmps16
    go_wp2_with (go_at_call 35; refine (l24Ok_any n A c cp2 zs _ HS.out hc).mono ?_; rintro e w1 ⟨rfl, hb1⟩; obtain ⟨hc1, hf1, hl1, hz1⟩ := bfacts hb1; (try simp only [World.size_alloc, World.size_setCell, World.size_drew] at hz1))
    have HP1 := Lib.hid (HP.out.later hb1)
    have HS1 := Lib.hid (HS.out.later hb1)
    refine (l24Order_any A1 n cp pts _ HP1.out k2).mono ?_
    rintro e w2 ⟨v2, rfl, hown, hb2⟩
    obtain ⟨A2, g2, cap2, rfl, hg2, hnc2, hcm2, ho2⟩ := own_of_row hown
    have SO := Lib.hid ho2.sl
    have HS2 := Lib.hid (HS1.out.later hb2)
    have B2 := Lib.hid (Below.via hb2 hb1 hz1)
    have hz2 := B2.out.size
    clear hown ho2 hb2
    go_wp2_with fail
    refine (l24Firsts_any n A c cp2 zs _ HS2.out k2 hc150 HZ.out).mono ?_
    rintro e w3 ⟨rfl, hblk, hb3⟩
    have HF := Lib.hid hblk
    have HS3 := Lib.hid (HS2.out.later hb3)
    have SO3 := Lib.hid (SO.out.later hb3)
    have B3 := Lib.hid (Below.via hb3 B2.out hz2)
    have hz3 := B3.out.size
    clear hblk hb3
    go_wp2_with fail
    refine (l24Try_any zs c cp2 A hc150 A2 n cap2 (ordL (ptF pts) n) _ l5 q5 ok5 (by omega) k2 hnc2 hcm2 SO3.out HS3.out HR5.out).mono ?_
    rintro e w4 ⟨v4, rfl, hown4, hb4⟩
    have HO4 := Lib.hid hown4
    have HF4 := Lib.hid (HF.out.later hb4)
    have B4 := Lib.hid (Below.via hb4 B3.out hz3)
    have hz4 := B4.out.size
    have hfg := HF.out.lt
    have hz34 := hb4.size
    clear hown4 hb4
    cases t
    case none =>
      injection hr5 with e1 e2
      injection e2 with e2 e3
      subst e1 e2 e3
      have h := HH.out
      rw [pbR_none HV.out HT.out] at h
      injection h with h1 h2
      injection h2 with h2 h3
      subst h1 h2 h3
      go_wp2_with fail
      go_ret2
      exact ⟨none, w.heap.size, 0, rfl, Nat.le_refl _, OwnV.none _ _ _ _ _, B4.out⟩
    case some r =>
      injection hr5 with e1 e2
      injection e2 with e2 e3
      subst e1 e2 e3
      have h := HH.out
      rw [pbR_some HV.out HT.out] at h
      injection h with h1 h2
      injection h2 with h2 h3
      have H1 := Lib.hid h1
      subst h2 h3
      obtain ⟨hrl, hrm⟩ := try_mem HT.out
      have HRL := Lib.hid hrl
      have HRM := Lib.hid hrm
      obtain ⟨A4, g4, cap4, rfl, hg4, hnc4, hcm4, ho4⟩ := own_of_row HO4.out
      obtain ⟨rfl, rest, hb4⟩ := ho4.blk (show 0 < n / 2 by omega)
      have HB4 := Lib.hid hb4
      obtain ⟨Q, hQ⟩ : ∃ Q, n / 2 = Q := ⟨_, rfl⟩
      rw [hQ] at HRL HRM H1 hnc4
      rw [hQ]
      have HQ := Lib.hid hQ
      have hQ6 : Q ≤ 6 := by omega
      obtain ⟨fs, hfs⟩ : ∃ fs, fstL n zs c = fs := ⟨_, rfl⟩
      have hfl : fs.length = n := by rw [← hfs]; exact fstL_len _ _ _
      have HFL := Lib.hid hfl
      rw [hfs] at H1 HF4
      have hgg : g4 ≠ w2.heap.size := by omega
      have HGG := Lib.hid hgg
      clear hrl hrm ho4 hb4 h1 hQ hfs hfl hgg
      go_wp2_with fail
      go_loopw [11] (fun i wr => ∃ k : Nat, k ≤ Q ∧ i = .int .i64 k ∧ Blk wr g4 52 ((flipL fs r k).map (Value.int .i64) ++ rest).toArray ∧ Blk wr w2.heap.size 2 (fs.map (Value.int .i64)).toArray ∧ w4.grownBy wr (some g4)) (fun i _ => Q - (intOf i).toNat)
      case atStart => exact ⟨0, Nat.zero_le _, rfl, HB4.out, HF4.out, World.grownBy.refl _ _⟩
      case round =>
        obtain ⟨k, hk, rfl, hbk, hbf, hgr⟩ := hrel
        rename World => wo
        have HBK := Lib.hid hbk
        have HBF := Lib.hid hbf
        have HGR := Lib.hid hgr
        by_cases hlt : k < Q
        · obtain ⟨a0, a1⟩ := HRM.out (2 * k) (by omega)
          obtain ⟨b0, b1⟩ := HRM.out (2 * k + 1) (by omega)
          obtain ⟨a, ha⟩ := Int.eq_ofNat_of_zero_le a0
          obtain ⟨b, hb⟩ := Int.eq_ofNat_of_zero_le b0
          have hfl2 := flipL_len fs r k
          have va := (hbk.cell (k * 2)).trans (arr_get2 (by rw [hfl2, HRL.out]; omega))
          have vb := (hbk.cell (k * 2 + 1)).trans (arr_get2 (by rw [hfl2, HRL.out]; omega))
          rw [flipL_later fs r k (k * 2) (by omega), show k * 2 = 2 * k by omega, ha, show 2 * k = k * 2 by omega] at va
          rw [flipL_later fs r k (k * 2 + 1) (by omega), show k * 2 + 1 = 2 * k + 1 by omega, hb, show 2 * k + 1 = k * 2 + 1 by omega] at vb
          have hba : a < n := by omega
          have hbb : b < n := by omega
          have fa := (hbf.cell a).trans (arr_get (zs := fs) (by rw [HFL.out]; omega))
          have fb := (hbf.cell b).trans (arr_get (zs := fs) (by rw [HFL.out]; omega))
          have fra := hbk.free (k * 2)
          have frb := hbk.free (k * 2 + 1)
          have HYES : Hid (fs.getD b 0 < fs.getD a 0 → flipL fs r (k + 1) = ((flipL fs r k).set (k * 2) (b : Int)).set (k * 2 + 1) (a : Int)) := fun h => by
            have := flipL_yes (fs := fs) ha hb (by rw [Int.toNat_natCast, Int.toNat_natCast]; exact h)
            rw [this, show 2 * k = k * 2 by omega]
          have HNO : Hid (¬ fs.getD b 0 < fs.getD a 0 → flipL fs r (k + 1) = flipL fs r k) := fun h => flipL_no (fs := fs) ha hb (by rw [Int.toNat_natCast, Int.toNat_natCast]; exact h)
          have HL3 := Lib.hid (show (flipL fs r k).length = Q * 2 by rw [hfl2, HRL.out]; omega)
          have hgl := hbk.lt
          have hfl1 := hbf.lt
          revert HYES HNO fa fb
          generalize fs.getD a 0 = x
          generalize fs.getD b 0 = y
          intro fa fb HYES HNO
          by_cases hxy : y < x
          · have hd : decide (y < x) = true := decide_eq_true hxy
            have HX := Lib.hid (HYES.out hxy)
            clear hxy HYES HNO ha hb a0 a1 b0 b1 hfl2 hbk hbf hgr
            go_wp2_with fail
            go_region
            go_wp2_with fail
            go_roundw
            case rel =>
              obtain ⟨q1, q2, q3⟩ := flip_blk (o := .cells #[.int .i64 (a : Int), .int .i64 (b : Int)] 52) HBK.out HL3.out hlt HBF.out HGG.out HX.out HGR.out
              exact ⟨k + 1, by omega, by go_num, q1, q2, q3⟩
            case measure => first | (simp [intOf]; done) | (simp [intOf]; omega)
          · have hd : decide (y < x) = false := decide_eq_false hxy
            have HX := Lib.hid (HNO.out hxy)
            clear hxy HYES HNO ha hb a0 a1 b0 b1 hfl2 hbk hbf hgr
            go_wp2_with fail
            go_region
            go_wp2_with fail
            go_roundw
            case rel => exact ⟨k + 1, by omega, by go_num, by rw [HX.out]; exact HBK.out.later (belowDrewN (Below.alloc (Below.refl _ _) (Nat.le_refl _) _) 1), HBF.out.later (belowDrewN (Below.alloc (Below.refl _ _) (Nat.le_refl _) _) 1), grown_dr1 (grown_alloc HGR.out _)⟩
            case measure => first | (simp [intOf]; done) | (simp [intOf]; omega)
        · obtain rfl : k = Q := by omega
          go_wp2_with fail
          go_ret2
          rw [HQ.out]
          refine ⟨_, g4, cap4, rfl, by omega, ⟨?_, fun _ => ⟨rfl, rest, ?_⟩⟩, grown_below B4.out HGR.out (by omega) hz4⟩
          · rw [← H1.out, List.length_map, flipL_len, HRL.out]; omega
          · rw [← H1.out]; exact HBK.out
end Go.Proofs.Yteeplmnjipddaaa
