/- PairByPoints: the program. No conditions beyond lengths. -/
import Derived.Test.YteeplmnjipddaaaPr4
import Derived.Test.YteeplmnjipddaaaSort1
namespace Go.Proofs.Yteeplmnjipddaaa
set_option linter.unusedSimpArgs false
set_option linter.unusedVariables false
open Go.RowKit Go.WideShapes

theorem uno_drew {W : World} {b i : Nat} {x : Value} (h : W.cell? ⟨b, i, none⟩ = some x) : W.drew.cell? ⟨b, i, none⟩ = some x := h
theorem blk_far {w w' : World} {g : Nat} {t : TypeId} {cs : Array Value} {row : Option Nat} (h : Blk w g t cs) (hg : w.grownBy w' row) (hne : some g ≠ row) : Blk w' g t cs := (hg.block g h.lt hne).trans h
theorem sl_far {w w' : World} {B size n g : Nat} {A : Option Addr} {xs : List Value} (h : Sl w B size A n xs) (hg : w.grownBy w' (some g)) (hB : B ≤ g) (hBw : B ≤ w.heap.size) : Sl w' B size A n xs :=
  h.keep fun b o hb => by
    have e := hg.block b (Nat.lt_of_lt_of_le hb hBw) (by intro e; injection e with e; omega)
    simp only [World.cell?, e]
set_option maxRecDepth 10000 in
set_option maxHeartbeats 2000000 in
theorem PairByPoints_any (A1 : Option Addr) (n cp : Nat) (pts : List Int) (A : Option Addr) (c cp2 : Nat) (zs : List Int) (w : World) (hp : Sl w w.heap.size 1 A1 n (pts.map (Value.int .i64))) (hs : Sl w w.heap.size 2 A c (zs.map (Value.int .i64))) (hn : n ≤ 9223372036854775807) (hc : c ≤ 9223372036854775807) (l : List Int) (q : Nat) (code : Int) (h : pbR pts zs n c = (l, q, code)) :
    Calls Try.prog 19 #[.slice A1 n cp, .slice A c cp2] w (PbPost l q code w) := by
  have HS := Lib.hid hs
  have HP := Lib.hid hp
  have HSa := Lib.hid (hs.later (Below.alloc (Below.refl _ _) (Nat.le_refl _) (.cells #[.slice A1 n cp] 24)))
  have hl2 : zs.length = c * 2 := by have := hs.1; simpa using this
  cases hv : validM n zs
  case false =>
    rw [pbR_bad hv] at h
    injection h with h1 h2
    injection h2 with h2 h3
    subst h1 h2 h3
    clear hs hp hl2
    go_enter Try.func19, Try.ntmps19
    go_wp2_with (go_at_call 40; refine (ValidMeetings_any n A c cp2 zs _ HSa.out hc).mono ?_; rintro e w1 ⟨rfl, hb1⟩; obtain ⟨hc1, hf1, hl1, hz1⟩ := bfacts hb1; (try simp only [World.size_alloc, World.size_setCell, World.size_drew] at hz1))
    go_ret2
    exact ⟨none, w.heap.size, 0, rfl, Nat.le_refl _, OwnV.none _ _ _ _ _, by (repeat' (first | (with_reducible exact Below.refl _ _) | (with_reducible assumption) | (with_reducible refine Below.alloc ?_ ?_ _) | (with_reducible refine Below.drew ?_) | (with_reducible refine belowDrewN ?_ _) | (with_reducible refine Below.setCell ?_ ?_ _) | (with_reducible refine Below.via (by with_reducible assumption) ?_ ?_) | (with_reducible refine Below.viaD (by with_reducible assumption) ?_ ?_) | (with_reducible exact Below.size (by with_reducible assumption)) | go_size | (with_reducible refine Nat.le_trans ?_ (Below.size (by with_reducible assumption))) | (with_reducible refine Nat.le_trans ?_ (sizeAlloc _ _)) | (with_reducible refine Nat.le_trans ?_ (sizeSet _ _ _)) | (with_reducible refine Nat.le_trans ?_ (sizeDrew _))))⟩
  case true =>
    obtain ⟨k, hnk, k1, k2, hl, hz⟩ := validM_of hv
    obtain rfl : n = k := by omega
    have hc150 : c ≤ 150 := by omega
    have HZ : Hid (∀ j, j < c → 0 ≤ zs.getD (j * 2) 0 ∧ zs.getD (j * 2) 0 < n) := fun j hj => ⟨(hz j (by omega)).1, (hz j (by omega)).2.1⟩
    have HZ2 : Hid (∀ j, j < c → 0 ≤ zs.getD (j * 2) 0 ∧ zs.getD (j * 2) 0 < 12 ∧ 0 ≤ zs.getD (j * 2 + 1) 0 ∧ zs.getD (j * 2 + 1) 0 < 12) := fun j hj => by
      have := hz j (by omega)
      omega
    obtain ⟨i0, ti, tz0, tz1, tz2⟩ := info_parts info_i64w
    have HI := Lib.hid (And.intro ti (And.intro tz0 (And.intro tz1 tz2)))
    have HV := Lib.hid hv
    have HH := Lib.hid h
    clear hs hp hl2 hz hl hnk h ti tz0 tz1 tz2
    go_enter Try.func19, Try.ntmps19
    go_wp2_with (go_at_call 40; refine (ValidMeetings_any n A c cp2 zs _ HSa.out hc).mono ?_; rintro e w1 ⟨rfl, hb1⟩; obtain ⟨hc1, hf1, hl1, hz1⟩ := bfacts hb1; (try simp only [World.size_alloc, World.size_setCell, World.size_drew] at hz1))
    -- the points' box, what lay before
    have HBP := Lib.hid ((Blk.new w 24 #[.slice A1 n cp]).later hb1)
    have B1 : Hid (Below w.heap.size w w1) := (Below.alloc (Below.refl _ _) (Nat.le_refl _) _).trans (hb1.mono (sizeAlloc _ _))
    have hz1' := B1.out.size
    have hp1 := HBP.out.lt
    have HBo : Hid (Blk ((w1.alloc (.cells #[] 2)).alloc (.cells #[.slice (some ⟨w1.heap.size, 0, none⟩) 0 0] 24)) (w1.heap.size + 1) 24 #[.slice (some ⟨w1.heap.size, 0, none⟩) 0 0]) := Blk.new' (by simp)
    clear hb1 hc1 hf1 hl1 hz1
    go_loopw [24] (fun i wr => ∃ (j : Nat) (v : Value), j ≤ n ∧ i = .int .i64 j ∧ Blk wr (w1.heap.size + 1) 24 #[v] ∧ wr.ownsRow w1.heap.size 2 1 v j ((rangeL j).map (Value.int .i64)) ∧ v.ownBlock ≠ some (w1.heap.size + 1) ∧ Below w1.heap.size w1 wr) (fun i _ => n - (intOf i).toNat)
    case atStart => exact ⟨0, _, Nat.zero_le _, rfl, HBo.out, row_below (World.ownsRow_made _ _ 0 (Nat.le_refl _) (Nat.zero_le _) rfl) (Below.alloc (Below.refl _ _) (Nat.le_refl _) _), by intro e; injection e with e; exact absurd e (by show ¬ w1.heap.size = w1.heap.size + 1; omega), by (repeat' (first | (with_reducible exact Below.refl _ _) | (with_reducible assumption) | (with_reducible refine Below.alloc ?_ ?_ _) | (with_reducible refine Below.drew ?_) | (with_reducible refine belowDrewN ?_ _) | (with_reducible refine Below.setCell ?_ ?_ _) | (with_reducible refine Below.via (by with_reducible assumption) ?_ ?_) | (with_reducible refine Below.viaD (by with_reducible assumption) ?_ ?_) | (with_reducible exact Below.size (by with_reducible assumption)) | go_size | (with_reducible refine Nat.le_trans ?_ (Below.size (by with_reducible assumption))) | (with_reducible refine Nat.le_trans ?_ (sizeAlloc _ _)) | (with_reducible refine Nat.le_trans ?_ (sizeSet _ _ _)) | (with_reducible refine Nat.le_trans ?_ (sizeDrew _))))⟩
    case round =>
      obtain ⟨j, v, hj, rfl, hbo, hown, hno, hbl⟩ := hrel
      rename World => wo
      have HBOX := Lib.hid hbo
      have HOW := Lib.hid hown
      have HNO := Lib.hid hno
      have HBL := Lib.hid hbl
      have hzo := hbl.size
      have hbc : wo.cell? ⟨w1.heap.size + 1, 0, none⟩ = some v := hbo.cell 0
      have hlo := hbo.lt
      clear hbo hown hno hbl
      by_cases hlt : j < n
      · have HA1 : Hid ((wo.alloc (.cells #[.int .i64 j] 2)).ownsRow w1.heap.size 2 1 v j ((rangeL j).map (Value.int .i64))) := row_below HOW.out (Below.alloc (Below.refl _ _) (Nat.le_refl _) _)
        have B4 := Lib.hid (Below.alloc HBL.out hzo (.cells #[.int .i64 j] 2))
        have hz4 := B4.out.size
        have HX4 := Lib.hid (HBOX.out.later (Below.alloc (Below.refl _ _) (Nat.le_refl _) (.cells #[.int .i64 j] 2)))
        go_wp2_with (at_builtin; refine wpList_append_sl _ rfl _ _ 24 rfl w1.heap.size 2 i0 _ 1 8 Try.underlying24 HI.out.1 HI.out.2.1 HI.out.2.2.1 HI.out.2.2.2 rfl (by decide) v j ((rangeL j).map (Value.int .i64)) rfl HA1.out (wo.heap.size + 1) _ 1 1 [.int .i64 j] rfl (Sl.built rfl (Nat.lt_succ_self _) rfl) ?c1 ?c2 ?c3 ?c4 ?_)
        case c1 => intro u hu; simp at hu; subst hu; rfl
        case c2 => unfold maxLen; omega
        case c3 => omega
        case c4 => exact hz4
        intro v2 w2 hown2 hg2 hor2
        have B5 := Lib.hid (below_app B4.out HA1.out hg2 (Nat.le_refl _) hz4)
        have HO2 := Lib.hid hown2
        have HX2 := Lib.hid (blk_far HX4.out hg2 (fun e => HNO.out e.symm))
        have HN2 : Hid (v2.ownBlock ≠ some (w1.heap.size + 1)) := by
          intro e
          rcases hor2 with h | h
          · exact HNO.out (h ▸ e)
          · rw [h] at e
            injection e with e
            simp at e
            omega
        have hc2' : w2.cell? ⟨w1.heap.size + 1, 0, none⟩ = some v := HX2.out.cell 0
        have hf2' := HX2.out.free 0
        obtain ⟨A7, g7, cap7, rfl, _, _, _, _⟩ := own_of_row hown2
        clear hown2 hg2 hor2
        go_wp2_with fail
        go_roundw
        case rel =>
          have h := HO2.out
          refine ⟨j + 1, .slice A7 (j + 1) cap7, by omega, by go_num, HX2.out.set 0 (.slice A7 (j + 1) cap7), ?_, HN2.out, Below.setCell B5.out (by simp) _⟩
          rw [rangeL_succ, List.map_append]
          exact row_set h (fun k e => by intro e2; rw [← e2] at e; exact HN2.out e) _
        case measure => first | (simp [intOf]; done) | (simp [intOf]; omega)
      · obtain rfl : j = n := by omega
        obtain ⟨A2, g, cap, rfl, hg, hncap, hmcap, ho⟩ := own_of_row HOW.out
        obtain ⟨rfl, rest2, hbk⟩ := ho.blk (show 0 < j by omega)
        have hgo : g ≠ w1.heap.size + 1 := fun e => HNO.out (by rw [← e]; rfl)
        have HGO := Lib.hid hgo
        obtain ⟨bp, op, px, hA1, hbp, _, _⟩ := (HP.out).int (show 0 < j by omega)
        subst hA1
        have HPT : Hid (∀ x, x < j → wo.cell? ⟨bp, op + x, none⟩ = some (.int .i64 (pts.getD x 0))) := fun x hx => by
          obtain ⟨b', off', z, e, _, hz, hcell⟩ := ((HP.out.below B1.out).below (HBL.out.mono hz1')).int hx
          injection e with e
          injection e with e1 e2
          subst e1 e2
          rw [hz.out]
          exact hcell
        have HROW : Hid (∀ x, x < j → wo.cell? ⟨g, 0 + x, none⟩ = some (.int .i64 (x : Int)) ∧ wo.frozen? ⟨g, 0 + x, none⟩ = false) := fun x hx => by
          refine ⟨?_, hbk.free _⟩
          rw [hbk.cell, Nat.zero_add, arr_get2 (by rw [rangeL_len]; exact hx)]
          congr 2
          rw [List.getD_eq_getElem?_getD, rangeL, List.getElem?_map, List.getElem?_range hx]; rfl
        have HCP : Hid (wo.cell? ⟨w.heap.size, 0, none⟩ = some (.slice (some ⟨bp, op, none⟩) j cp)) := (HBP.out.below HBL.out hp1).cell 0
        have HZO := Lib.hid (HBOX.out.cell 0)
        have hgl := hbk.lt
        have B2 := Lib.hid (Below.via HBL.out B1.out hz1')
        have hcp2 := HCP.out
        clear hbc ho hbk hgo hbp
        have hbc : wo.cell? ⟨w1.heap.size + 1, 0, none⟩ = some (.slice (some ⟨g, 0, none⟩) j cap) := HZO.out
        have hBo := Lib.hid hbc
        go_wp2_with fail
        refine (sort_pts k1 (by omega) wo pts w.heap.size (w1.heap.size + 1) bp op cp g 0 cap HCP.out hBo.out HPT.out HROW.out (by omega) (fun e => HGO.out e.symm) (by have := HP.out.2 (show 0 < j by omega); obtain ⟨b', o', e, hb', _⟩ := this; injection e with e; injection e with e _; subst e; omega)).mono ?_
        rintro e w5 ⟨rfl, hg5, so5⟩
        have SO5 := Lib.hid (so5.mono hg5.size)
        have HX5 := Lib.hid (blk_far HBOX.out hg5 (fun e => HGO.out (by injection e with e; exact e.symm)))
        have B5 := Lib.hid (grown_below B2.out hg5 (by omega) B2.out.size)
        have HS5 := Lib.hid ((HS.out.below B5.out).mono B5.out.size)
        have hz5 := B5.out.size
        have hz5' := hg5.size
        clear so5 hg5 hbc hcp2
        go_wp2_with fail
        refine (newPairer_any A c cp2 zs _ HS5.out hc150 HZ2.out).mono ?_
        rintro e w6 ⟨rfl, hbk6, hb6⟩
        have HK6 := Lib.hid hbk6
        have HS6 := Lib.hid (HS5.out.later hb6)
        have SO6 := Lib.hid (SO5.out.later hb6)
        have HX6 := Lib.hid (HX5.out.later hb6)
        have B6 := Lib.hid (Below.via hb6 B5.out hz5)
        have hz6 := B6.out.size
        have hz6' := hb6.size
        clear hbk6 hb6
        go_wp2_with fail
        refine (firstsOf_any j A c cp2 zs _ HS6.out k2 hc150 HZ.out).mono ?_
        rintro e w7 ⟨rfl, hbk7, hb7⟩
        have HF7 := Lib.hid hbk7
        have HK7 := Lib.hid (HK6.out.later hb7)
        have SO7 := Lib.hid (SO6.out.later hb7)
        have HX7 := Lib.hid (HX6.out.later hb7)
        have B7 := Lib.hid (Below.via hb7 B6.out hz6)
        have hz7 := B7.out.size
        have hz7' := hb7.size
        have hf7 := hbk7.lt
        clear hbk7 hb7
        have hcx7 : w7.cell? ⟨w1.heap.size + 1, 0, none⟩ = some (.slice (some ⟨g, 0, none⟩) j cap) := HX7.out.cell 0
        have hbx7 := HX7.out.lt
        obtain ⟨n, rfl⟩ : ∃ n, n = j := ⟨_, rfl⟩
        have hmd : (n : Int).tmod 2 = (n : Int) % 2 := Int.tmod_eq_emod_of_nonneg (by omega)
        have HX7a := Lib.hid (HX7.out.later (Below.alloc (Below.refl _ _) (Nat.le_refl _) (.cells #[] 52)))
        have hd6 : n / 2 ≤ 6 := by omega
        have HMEM : Hid (∀ x ∈ ordL (ptF pts) n, 0 ≤ x ∧ x < 12) := fun x hx => by have := ordL_mem (ptF pts) n x hx; omega
        have hw1 : IntKind.i64.wrap ((n : Int) - 1) = (n : Int) - 1 := IntWalk.i64_in _ (by omega)
        by_cases hev : n % 2 = 0
        case pos =>
          have hb0 : (((n : Int) % 2) == 0) = true := by rw [beq_iff_eq]; omega
          have hb1 : (((n : Int) % 2) == 1) = false := by rw [beq_eq_false_iff_ne]; omega
          have HN : Hid (n = 2 * (n / 2)) := by unfold Hid; omega
          obtain ⟨t, ht⟩ : ∃ t, tryN (fun a b => metB zs a b c) n (ordL (ptF pts) n) = t := ⟨_, rfl⟩
          have HT := Lib.hid ht
          have HTP : Hid (pairN (fun a b => metB zs a b c) (n / 2) (ordL (ptF pts) n) = t) := by rw [← tryN_even hev]; exact ht
          obtain ⟨l5, q5, ok5, hr5⟩ : ∃ l5 q5 ok5, prD (n / 2) t = (l5, q5, ok5) := ⟨_, _, _, rfl⟩
          have HR5 : Hid (prD (n / 2) (pairN (fun a b => metB zs a b c) (n / 2) (ordL (ptF pts) n)) = (l5, q5, ok5)) := by unfold Hid; rw [HTP.out]; exact hr5
          have KA := Lib.hid (HK7.out.later (Below.alloc (Below.refl _ _) (Nat.le_refl _) (.cells #[] 52)))
          have SA := Lib.hid (SO7.out.later (Below.alloc (Below.refl _ _) (Nat.le_refl _) (.cells #[] 52)))
          have FA := Lib.hid (HF7.out.later (Below.alloc (Below.refl _ _) (Nat.le_refl _) (.cells #[] 52)))
          have BA := Lib.hid (Below.alloc B7.out hz7 (.cells #[] 52))
          have hza := BA.out.size
          have hza7 : w7.heap.size ≤ (w7.alloc (.cells #[] 52)).heap.size := sizeAlloc _ _
          clear hev ht
          go_wp2_with fail
          refine (pair_any zs c w5.heap.size (n / 2) hd6 (some ⟨g, 0, none⟩) n cap (ordL (ptF pts) n) _ l5 q5 ok5 HN.out hncap hmcap SA.out HMEM.out KA.out HR5.out).mono ?_
          rintro e w8 ⟨v8, rfl, hown8, hb8⟩
          have HO8 := Lib.hid (own_baseM hown8 hza7)
          have HF8 := Lib.hid (FA.out.later hb8)
          have B8 := Lib.hid (Below.via hb8 BA.out hza)
          have hz8 := B8.out.size
          clear hown8 hb8
          go_wp2_with fail
          go_loopw [11, 12, 13] (fun a b z wr => a = v8 ∧ b = .bool ok5 ∧ z = .int .i64 ((n : Int) - 1) ∧ wr = w8) (fun _ _ _ _ => 0)
          case atStart => exact ⟨rfl, rfl, rfl, rfl⟩
          case round =>
            obtain ⟨rfl, rfl, rfl, hwr⟩ := hrel
            obtain rfl := hwr.symm
            cases t
            case none =>
              injection hr5 with e1 e2
              injection e2 with e2 e3
              subst e1 e2 e3
              have h := HH.out
              rw [pbR_none HV.out HT.out] at h
              injection h with h1 h2
              injection h2 with h2 h3
              subst h1 h2 h3
              go_wp2_with fail
              go_ret2
              exact ⟨none, w.heap.size, 0, rfl, Nat.le_refl _, OwnV.none _ _ _ _ _, B8.out⟩
            case some r =>
              injection hr5 with e1 e2
              injection e2 with e2 e3
              subst e1 e2 e3
              obtain ⟨hrl, hrm⟩ := try_mem HT.out
              have HRL := Lib.hid hrl
              have HRM := Lib.hid hrm
              have h := HH.out
              rw [pbR_some HV.out HT.out] at h
              injection h with h1 h2
              injection h2 with h2 h3
              have H1 := Lib.hid h1
              subst h2 h3
              obtain ⟨A4, g4, cap4, rfl, hg4, hnc4, hcm4, ho4⟩ := own_of_row HO8.out
              obtain ⟨rfl, rest, hb4⟩ := ho4.blk (show 0 < n / 2 by omega)
              have HB4 := Lib.hid hb4
              obtain ⟨Q, hQ⟩ : ∃ Q, n / 2 = Q := ⟨_, rfl⟩
              rw [hQ] at HRL HRM H1 hnc4
              rw [hQ]
              have HQ := Lib.hid hQ
              have hQ6 : Q ≤ 6 := by omega
              obtain ⟨fs, hfs⟩ : ∃ fs, fstL n zs c = fs := ⟨_, rfl⟩
              have hfl : fs.length = n := by rw [← hfs]; exact fstL_len _ _ _
              have HFL := Lib.hid hfl
              rw [hfs] at H1 HF8
              have hgg : g4 ≠ w6.heap.size := by omega
              have HGG := Lib.hid hgg
              clear hrl hrm ho4 hb4 h1 hQ hfs hfl hgg
              go_wp2_with fail
              go_loopw [84] (fun i wr => ∃ k : Nat, k ≤ Q ∧ i = .int .i64 k ∧ Blk wr g4 52 ((flipL fs r k).map (Value.int .i64) ++ rest).toArray ∧ Blk wr w6.heap.size 2 (fs.map (Value.int .i64)).toArray ∧ w8.grownBy wr (some g4)) (fun i _ => Q - (intOf i).toNat)
              case atStart => exact ⟨0, Nat.zero_le _, rfl, HB4.out, HF8.out, World.grownBy.refl _ _⟩
              case round =>
                obtain ⟨k, hk, rfl, hbk, hbf, hgr⟩ := hrel
                rename World => wo
                have HBK := Lib.hid hbk
                have HBF := Lib.hid hbf
                have HGR := Lib.hid hgr
                by_cases hlt : k < Q
                · obtain ⟨a0, a1⟩ := HRM.out (2 * k) (by omega)
                  obtain ⟨b0, b1⟩ := HRM.out (2 * k + 1) (by omega)
                  obtain ⟨a, ha⟩ := Int.eq_ofNat_of_zero_le a0
                  obtain ⟨b, hb⟩ := Int.eq_ofNat_of_zero_le b0
                  have hfl2 := flipL_len fs r k
                  have va := (hbk.cell (k * 2)).trans (arr_get2 (by rw [hfl2, HRL.out]; omega))
                  have vb := (hbk.cell (k * 2 + 1)).trans (arr_get2 (by rw [hfl2, HRL.out]; omega))
                  rw [flipL_later fs r k (k * 2) (by omega), show k * 2 = 2 * k by omega, ha, show 2 * k = k * 2 by omega] at va
                  rw [flipL_later fs r k (k * 2 + 1) (by omega), show k * 2 + 1 = 2 * k + 1 by omega, hb, show 2 * k + 1 = k * 2 + 1 by omega] at vb
                  have hba : a < n := by omega
                  have hbb : b < n := by omega
                  have fa := (hbf.cell a).trans (arr_get (zs := fs) (by rw [HFL.out]; omega))
                  have fb := (hbf.cell b).trans (arr_get (zs := fs) (by rw [HFL.out]; omega))
                  have fra := hbk.free (k * 2)
                  have frb := hbk.free (k * 2 + 1)
                  have HYES : Hid (fs.getD b 0 < fs.getD a 0 → flipL fs r (k + 1) = ((flipL fs r k).set (k * 2) (b : Int)).set (k * 2 + 1) (a : Int)) := fun h => by
                    have := flipL_yes (fs := fs) ha hb (by rw [Int.toNat_natCast, Int.toNat_natCast]; exact h)
                    rw [this, show 2 * k = k * 2 by omega]
                  have HNO : Hid (¬ fs.getD b 0 < fs.getD a 0 → flipL fs r (k + 1) = flipL fs r k) := fun h => flipL_no (fs := fs) ha hb (by rw [Int.toNat_natCast, Int.toNat_natCast]; exact h)
                  have HL3 := Lib.hid (show (flipL fs r k).length = Q * 2 by rw [hfl2, HRL.out]; omega)
                  have hgl := hbk.lt
                  have hfl1 := hbf.lt
                  revert HYES HNO fa fb
                  generalize fs.getD a 0 = x
                  generalize fs.getD b 0 = y
                  intro fa fb HYES HNO
                  by_cases hxy : y < x
                  · have hd : decide (y < x) = true := decide_eq_true hxy
                    have HX := Lib.hid (HYES.out hxy)
                    clear hxy HYES HNO ha hb a0 a1 b0 b1 hfl2 hbk hbf hgr
                    go_wp2_with fail
                    go_region
                    go_wp2_with fail
                    go_roundw
                    case rel =>
                      obtain ⟨q1, q2, q3⟩ := flip_blk (o := .cells #[.int .i64 (a : Int), .int .i64 (b : Int)] 52) HBK.out HL3.out hlt HBF.out HGG.out HX.out HGR.out
                      exact ⟨k + 1, by omega, by go_num, q1, q2, q3⟩
                    case measure => first | (simp [intOf]; done) | (simp [intOf]; omega)
                  · have hd : decide (y < x) = false := decide_eq_false hxy
                    have HX := Lib.hid (HNO.out hxy)
                    clear hxy HYES HNO ha hb a0 a1 b0 b1 hfl2 hbk hbf hgr
                    go_wp2_with fail
                    go_region
                    go_wp2_with fail
                    go_roundw
                    case rel => exact ⟨k + 1, by omega, by go_num, by rw [HX.out]; exact HBK.out.later (belowDrewN (Below.alloc (Below.refl _ _) (Nat.le_refl _) _) 1), HBF.out.later (belowDrewN (Below.alloc (Below.refl _ _) (Nat.le_refl _) _) 1), grown_dr1 (grown_alloc HGR.out _)⟩
                    case measure => first | (simp [intOf]; done) | (simp [intOf]; omega)
                · obtain rfl : k = Q := by omega
                  go_wp2_with fail
                  go_ret2
                  rw [HQ.out]
                  refine ⟨_, g4, cap4, rfl, by omega, ⟨?_, fun _ => ⟨rfl, rest, ?_⟩⟩, grown_below B8.out HGR.out (by omega) hz8⟩
                  · rw [← H1.out, List.length_map, flipL_len, HRL.out]; omega
                  · rw [← H1.out]; exact HBK.out
        case neg =>
          have hb0 : (((n : Int) % 2) == 0) = false := by rw [beq_eq_false_iff_ne]; omega
          have hb1 : (((n : Int) % 2) == 1) = true := by rw [beq_iff_eq]; omega
          have HN : Hid (n - 1 = 2 * (n / 2)) := by unfold Hid; omega
          obtain ⟨F, hF⟩ : ∃ F, (fun i => pairN (fun a b => metB zs a b c) (n / 2) (leave (ordL (ptF pts) n) (n - 1 - i))) = F := ⟨_, rfl⟩
          have HFK : Hid (∀ i, F i = pairN (fun a b => metB zs a b c) (n / 2) (leave (ordL (ptF pts) n) (n - 1 - i))) := fun i => by rw [← hF]
          have HTF : Hid (tryN (fun a b => metB zs a b c) n (ordL (ptF pts) n) = firstS F n) := by unfold Hid; rw [tryN_odd (by omega), hF]
          clear hev hF
          go_wp2_with fail
          go_loopw [11, 12, 13] (fun a b z wr => ∃ (i : Nat) (y : Int) (ok : Bool) (q1 : Nat) (r1 : List Int), i ≤ n ∧ Hid (y = (n : Int) - 1 - i) ∧ z = .int .i64 y ∧ b = .bool ok ∧ wr.ownsRow w7.heap.size 52 2 a q1 (r1.map (Value.int .i64)) ∧ Hid (ok = false → ∀ j, j < i → F j = none) ∧ Hid (ok = true → q1 = n / 2 ∧ firstS F n = some r1) ∧ Below w7.heap.size w7 wr) (fun _ _ z _ => (intOf z + 1).toNat)
          case atStart => exact ⟨0, (n : Int) - 1, false, 0, [], Nat.zero_le _, by unfold Hid; omega, rfl, rfl, World.ownsRow_made _ _ 0 (Nat.le_refl _) (Nat.zero_le _) rfl, fun _ j hj => absurd hj (by omega), fun h => (by cases h), by (repeat' (first | (with_reducible exact Below.refl _ _) | (with_reducible assumption) | (with_reducible refine Below.alloc ?_ ?_ _) | (with_reducible refine Below.drew ?_) | (with_reducible refine belowDrewN ?_ _) | (with_reducible refine Below.setCell ?_ ?_ _) | (with_reducible refine Below.via (by with_reducible assumption) ?_ ?_) | (with_reducible refine Below.viaD (by with_reducible assumption) ?_ ?_) | (with_reducible exact Below.size (by with_reducible assumption)) | go_size | (with_reducible refine Nat.le_trans ?_ (Below.size (by with_reducible assumption))) | (with_reducible refine Nat.le_trans ?_ (sizeAlloc _ _)) | (with_reducible refine Nat.le_trans ?_ (sizeSet _ _ _)) | (with_reducible refine Nat.le_trans ?_ (sizeDrew _))))⟩
          case round =>
            obtain ⟨i, y, ok, q1, r1, hi, hy, rfl, rfl, hown, hnone, hyes, hbl⟩ := hrel
            rename World => w8
            have HO8 := Lib.hid hown
            have HB8 := Lib.hid hbl
            have HX8 := Lib.hid (HX7.out.later hbl)
            have HF8 := Lib.hid (HF7.out.later hbl)
            have B8 := Lib.hid (Below.via hbl B7.out hz7)
            have hz8 := B8.out.size
            have hz87 := hbl.size
            cases ok
            case true =>
              obtain ⟨hq1, hf1⟩ := hyes.out rfl
              subst hq1
              have HT : Hid (tryN (fun a b => metB zs a b c) n (ordL (ptF pts) n) = some r1) := HTF.out.trans hf1
              have HLT : Hid (i ≤ n) := hi
              clear hown hbl hf1
              obtain ⟨r, rfl⟩ : ∃ r, r = r1 := ⟨_, rfl⟩
              by_cases hyn : (0 : Int) ≤ y
              · obtain ⟨hrl, hrm⟩ := try_mem HT.out
                have HRL := Lib.hid hrl
                have HRM := Lib.hid hrm
                have h := HH.out
                rw [pbR_some HV.out HT.out] at h
                injection h with h1 h2
                injection h2 with h2 h3
                have H1 := Lib.hid h1
                subst h2 h3
                obtain ⟨A4, g4, cap4, rfl, hg4, hnc4, hcm4, ho4⟩ := own_of_row HO8.out
                obtain ⟨rfl, rest, hb4⟩ := ho4.blk (show 0 < n / 2 by omega)
                have HB4 := Lib.hid hb4
                obtain ⟨Q, hQ⟩ : ∃ Q, n / 2 = Q := ⟨_, rfl⟩
                rw [hQ] at HRL HRM H1 hnc4
                rw [hQ]
                have HQ := Lib.hid hQ
                have hQ6 : Q ≤ 6 := by omega
                obtain ⟨fs, hfs⟩ : ∃ fs, fstL n zs c = fs := ⟨_, rfl⟩
                have hfl : fs.length = n := by rw [← hfs]; exact fstL_len _ _ _
                have HFL := Lib.hid hfl
                rw [hfs] at H1 HF8
                have hgg : g4 ≠ w6.heap.size := by omega
                have HGG := Lib.hid hgg
                clear hrl hrm ho4 hb4 h1 hQ hfs hfl hgg
                go_wp2_with fail
                go_loopw [84] (fun i wr => ∃ k : Nat, k ≤ Q ∧ i = .int .i64 k ∧ Blk wr g4 52 ((flipL fs r k).map (Value.int .i64) ++ rest).toArray ∧ Blk wr w6.heap.size 2 (fs.map (Value.int .i64)).toArray ∧ w8.grownBy wr (some g4)) (fun i _ => Q - (intOf i).toNat)
                case atStart => exact ⟨0, Nat.zero_le _, rfl, HB4.out, HF8.out, World.grownBy.refl _ _⟩
                case round =>
                  obtain ⟨k, hk, rfl, hbk, hbf, hgr⟩ := hrel
                  rename World => wo
                  have HBK := Lib.hid hbk
                  have HBF := Lib.hid hbf
                  have HGR := Lib.hid hgr
                  by_cases hlt : k < Q
                  · obtain ⟨a0, a1⟩ := HRM.out (2 * k) (by omega)
                    obtain ⟨b0, b1⟩ := HRM.out (2 * k + 1) (by omega)
                    obtain ⟨a, ha⟩ := Int.eq_ofNat_of_zero_le a0
                    obtain ⟨b, hb⟩ := Int.eq_ofNat_of_zero_le b0
                    have hfl2 := flipL_len fs r k
                    have va := (hbk.cell (k * 2)).trans (arr_get2 (by rw [hfl2, HRL.out]; omega))
                    have vb := (hbk.cell (k * 2 + 1)).trans (arr_get2 (by rw [hfl2, HRL.out]; omega))
                    rw [flipL_later fs r k (k * 2) (by omega), show k * 2 = 2 * k by omega, ha, show 2 * k = k * 2 by omega] at va
                    rw [flipL_later fs r k (k * 2 + 1) (by omega), show k * 2 + 1 = 2 * k + 1 by omega, hb, show 2 * k + 1 = k * 2 + 1 by omega] at vb
                    have hba : a < n := by omega
                    have hbb : b < n := by omega
                    have fa := (hbf.cell a).trans (arr_get (zs := fs) (by rw [HFL.out]; omega))
                    have fb := (hbf.cell b).trans (arr_get (zs := fs) (by rw [HFL.out]; omega))
                    have fra := hbk.free (k * 2)
                    have frb := hbk.free (k * 2 + 1)
                    have HYES : Hid (fs.getD b 0 < fs.getD a 0 → flipL fs r (k + 1) = ((flipL fs r k).set (k * 2) (b : Int)).set (k * 2 + 1) (a : Int)) := fun h => by
                      have := flipL_yes (fs := fs) ha hb (by rw [Int.toNat_natCast, Int.toNat_natCast]; exact h)
                      rw [this, show 2 * k = k * 2 by omega]
                    have HNO : Hid (¬ fs.getD b 0 < fs.getD a 0 → flipL fs r (k + 1) = flipL fs r k) := fun h => flipL_no (fs := fs) ha hb (by rw [Int.toNat_natCast, Int.toNat_natCast]; exact h)
                    have HL3 := Lib.hid (show (flipL fs r k).length = Q * 2 by rw [hfl2, HRL.out]; omega)
                    have hgl := hbk.lt
                    have hfl1 := hbf.lt
                    revert HYES HNO fa fb
                    generalize fs.getD a 0 = x
                    generalize fs.getD b 0 = y
                    intro fa fb HYES HNO
                    by_cases hxy : y < x
                    · have hd : decide (y < x) = true := decide_eq_true hxy
                      have HX := Lib.hid (HYES.out hxy)
                      clear hxy HYES HNO ha hb a0 a1 b0 b1 hfl2 hbk hbf hgr
                      go_wp2_with fail
                      go_region
                      go_wp2_with fail
                      go_roundw
                      case rel =>
                        obtain ⟨q1, q2, q3⟩ := flip_blk (o := .cells #[.int .i64 (a : Int), .int .i64 (b : Int)] 52) HBK.out HL3.out hlt HBF.out HGG.out HX.out HGR.out
                        exact ⟨k + 1, by omega, by go_num, q1, q2, q3⟩
                      case measure => first | (simp [intOf]; done) | (simp [intOf]; omega)
                    · have hd : decide (y < x) = false := decide_eq_false hxy
                      have HX := Lib.hid (HNO.out hxy)
                      clear hxy HYES HNO ha hb a0 a1 b0 b1 hfl2 hbk hbf hgr
                      go_wp2_with fail
                      go_region
                      go_wp2_with fail
                      go_roundw
                      case rel => exact ⟨k + 1, by omega, by go_num, by rw [HX.out]; exact HBK.out.later (belowDrewN (Below.alloc (Below.refl _ _) (Nat.le_refl _) _) 1), HBF.out.later (belowDrewN (Below.alloc (Below.refl _ _) (Nat.le_refl _) _) 1), grown_dr1 (grown_alloc HGR.out _)⟩
                      case measure => first | (simp [intOf]; done) | (simp [intOf]; omega)
                  · obtain rfl : k = Q := by omega
                    go_wp2_with fail
                    go_ret2
                    rw [HQ.out]
                    refine ⟨_, g4, cap4, rfl, by omega, ⟨?_, fun _ => ⟨rfl, rest, ?_⟩⟩, grown_below B8.out HGR.out (by omega) hz8⟩
                    · rw [← H1.out, List.length_map, flipL_len, HRL.out]; omega
                    · rw [← H1.out]; exact HBK.out
              · obtain ⟨hrl, hrm⟩ := try_mem HT.out
                have HRL := Lib.hid hrl
                have HRM := Lib.hid hrm
                have h := HH.out
                rw [pbR_some HV.out HT.out] at h
                injection h with h1 h2
                injection h2 with h2 h3
                have H1 := Lib.hid h1
                subst h2 h3
                obtain ⟨A4, g4, cap4, rfl, hg4, hnc4, hcm4, ho4⟩ := own_of_row HO8.out
                obtain ⟨rfl, rest, hb4⟩ := ho4.blk (show 0 < n / 2 by omega)
                have HB4 := Lib.hid hb4
                obtain ⟨Q, hQ⟩ : ∃ Q, n / 2 = Q := ⟨_, rfl⟩
                rw [hQ] at HRL HRM H1 hnc4
                rw [hQ]
                have HQ := Lib.hid hQ
                have hQ6 : Q ≤ 6 := by omega
                obtain ⟨fs, hfs⟩ : ∃ fs, fstL n zs c = fs := ⟨_, rfl⟩
                have hfl : fs.length = n := by rw [← hfs]; exact fstL_len _ _ _
                have HFL := Lib.hid hfl
                rw [hfs] at H1 HF8
                have hgg : g4 ≠ w6.heap.size := by omega
                have HGG := Lib.hid hgg
                clear hrl hrm ho4 hb4 h1 hQ hfs hfl hgg
                go_wp2_with fail
                go_loopw [84] (fun i wr => ∃ k : Nat, k ≤ Q ∧ i = .int .i64 k ∧ Blk wr g4 52 ((flipL fs r k).map (Value.int .i64) ++ rest).toArray ∧ Blk wr w6.heap.size 2 (fs.map (Value.int .i64)).toArray ∧ w8.grownBy wr (some g4)) (fun i _ => Q - (intOf i).toNat)
                case atStart => exact ⟨0, Nat.zero_le _, rfl, HB4.out, HF8.out, World.grownBy.refl _ _⟩
                case round =>
                  obtain ⟨k, hk, rfl, hbk, hbf, hgr⟩ := hrel
                  rename World => wo
                  have HBK := Lib.hid hbk
                  have HBF := Lib.hid hbf
                  have HGR := Lib.hid hgr
                  by_cases hlt : k < Q
                  · obtain ⟨a0, a1⟩ := HRM.out (2 * k) (by omega)
                    obtain ⟨b0, b1⟩ := HRM.out (2 * k + 1) (by omega)
                    obtain ⟨a, ha⟩ := Int.eq_ofNat_of_zero_le a0
                    obtain ⟨b, hb⟩ := Int.eq_ofNat_of_zero_le b0
                    have hfl2 := flipL_len fs r k
                    have va := (hbk.cell (k * 2)).trans (arr_get2 (by rw [hfl2, HRL.out]; omega))
                    have vb := (hbk.cell (k * 2 + 1)).trans (arr_get2 (by rw [hfl2, HRL.out]; omega))
                    rw [flipL_later fs r k (k * 2) (by omega), show k * 2 = 2 * k by omega, ha, show 2 * k = k * 2 by omega] at va
                    rw [flipL_later fs r k (k * 2 + 1) (by omega), show k * 2 + 1 = 2 * k + 1 by omega, hb, show 2 * k + 1 = k * 2 + 1 by omega] at vb
                    have hba : a < n := by omega
                    have hbb : b < n := by omega
                    have fa := (hbf.cell a).trans (arr_get (zs := fs) (by rw [HFL.out]; omega))
                    have fb := (hbf.cell b).trans (arr_get (zs := fs) (by rw [HFL.out]; omega))
                    have fra := hbk.free (k * 2)
                    have frb := hbk.free (k * 2 + 1)
                    have HYES : Hid (fs.getD b 0 < fs.getD a 0 → flipL fs r (k + 1) = ((flipL fs r k).set (k * 2) (b : Int)).set (k * 2 + 1) (a : Int)) := fun h => by
                      have := flipL_yes (fs := fs) ha hb (by rw [Int.toNat_natCast, Int.toNat_natCast]; exact h)
                      rw [this, show 2 * k = k * 2 by omega]
                    have HNO : Hid (¬ fs.getD b 0 < fs.getD a 0 → flipL fs r (k + 1) = flipL fs r k) := fun h => flipL_no (fs := fs) ha hb (by rw [Int.toNat_natCast, Int.toNat_natCast]; exact h)
                    have HL3 := Lib.hid (show (flipL fs r k).length = Q * 2 by rw [hfl2, HRL.out]; omega)
                    have hgl := hbk.lt
                    have hfl1 := hbf.lt
                    revert HYES HNO fa fb
                    generalize fs.getD a 0 = x
                    generalize fs.getD b 0 = y
                    intro fa fb HYES HNO
                    by_cases hxy : y < x
                    · have hd : decide (y < x) = true := decide_eq_true hxy
                      have HX := Lib.hid (HYES.out hxy)
                      clear hxy HYES HNO ha hb a0 a1 b0 b1 hfl2 hbk hbf hgr
                      go_wp2_with fail
                      go_region
                      go_wp2_with fail
                      go_roundw
                      case rel =>
                        obtain ⟨q1, q2, q3⟩ := flip_blk (o := .cells #[.int .i64 (a : Int), .int .i64 (b : Int)] 52) HBK.out HL3.out hlt HBF.out HGG.out HX.out HGR.out
                        exact ⟨k + 1, by omega, by go_num, q1, q2, q3⟩
                      case measure => first | (simp [intOf]; done) | (simp [intOf]; omega)
                    · have hd : decide (y < x) = false := decide_eq_false hxy
                      have HX := Lib.hid (HNO.out hxy)
                      clear hxy HYES HNO ha hb a0 a1 b0 b1 hfl2 hbk hbf hgr
                      go_wp2_with fail
                      go_region
                      go_wp2_with fail
                      go_roundw
                      case rel => exact ⟨k + 1, by omega, by go_num, by rw [HX.out]; exact HBK.out.later (belowDrewN (Below.alloc (Below.refl _ _) (Nat.le_refl _) _) 1), HBF.out.later (belowDrewN (Below.alloc (Below.refl _ _) (Nat.le_refl _) _) 1), grown_dr1 (grown_alloc HGR.out _)⟩
                      case measure => first | (simp [intOf]; done) | (simp [intOf]; omega)
                  · obtain rfl : k = Q := by omega
                    go_wp2_with fail
                    go_ret2
                    rw [HQ.out]
                    refine ⟨_, g4, cap4, rfl, by omega, ⟨?_, fun _ => ⟨rfl, rest, ?_⟩⟩, grown_below B8.out HGR.out (by omega) hz8⟩
                    · rw [← H1.out, List.length_map, flipL_len, HRL.out]; omega
                    · rw [← H1.out]; exact HBK.out
            case false =>
              by_cases hlt : i < n
              · obtain ⟨k, rfl⟩ : ∃ k : Nat, y = k := ⟨n - 1 - i, by have := hy.out; omega⟩
                have hkn : k < n := by have := hy.out; omega
                have HKo := Lib.hid (HK7.out.later hbl)
                have HSo := SO7.out.later hbl
                obtain ⟨l1, l2, e1, e2, e3, hl1, hl2⟩ := leave_parts (ordL_len (ptF pts) n) hkn
                have P1 : Hid (Sl w8 w8.heap.size 1 (some ⟨g, 0, none⟩) k (l1.map (Value.int .i64))) := by rw [← e1]; exact HSo.takew (by omega)
                have P2 : Hid (Part w8 cap n (k + 1) n (some ⟨g, 0, none⟩) l2) := fun A' hA => by rw [← e2]; exact HSo.partw (by omega) (Nat.le_refl _) hncap hA
                have E3 := Lib.hid e3
                have g1 : (0 : Int) ≤ (k : Int) := by omega
                have g2 : (k : Int) ≤ (cap : Int) := by omega
                have g3 : (k : Int) + 1 ≤ (n : Int) := by omega
                have g4 : (0 : Int) ≤ (k : Int) + 1 := by omega
                have g5 : IntKind.i64.wrap ((k : Int) + 1) = (k : Int) + 1 := IntWalk.i64_in _ (by omega)
                have hS0 : w8.cell? ⟨w1.heap.size + 1, 0, none⟩ = some (.slice (some ⟨g, 0, none⟩) n cap) := HX8.out.cell 0
                obtain ⟨l5, q5, ok5, hr5⟩ : ∃ l5 q5 ok5, prD (n / 2) (pairN (fun a b => metB zs a b c) (n / 2) (leave (ordL (ptF pts) n) k)) = (l5, q5, ok5) := ⟨_, _, _, rfl⟩
                have HR5 := Lib.hid hr5
                have HMEM2 : Hid (∀ x ∈ leave (ordL (ptF pts) n) k, 0 ≤ x ∧ x < 12) := fun x hx => HMEM.out x (leave_mem hx)
                have HCK : (cap = k + 1) = True ∨ (cap = k + 1) = False := by
                  by_cases h : cap = k + 1
                  · exact Or.inl (eq_true h)
                  · exact Or.inr (eq_false h)
                clear e1 e2 e3 HSo hbl hown hr5
                rcases HCK with hck | hck
                · go_wp2_with fail
                  go_region_held3 (fun W => W.cell? ⟨w1.heap.size + 1, 0, none⟩ = some (.slice (some ⟨g, 0, none⟩) n cap)) (first | (with_reducible exact uno_drew hS0) | (with_reducible assumption)) (first
                    | (go_at_call 45; (with_reducible refine Calls.mono (copyNumbers_row _ k cap l1 _ ?_ ?_) ?_); (exact P1.out.drew); omega; rintro e w3 ⟨v3, rfl, hown3, hb3⟩; have HO3 := Lib.hid hown3; have P3 := Lib.hid (P2.out.drew.later hb3); have hbn : Below w8.heap.size w8 w3 := Below.undrew hb3; have hz3 := hbn.size; have hx3 : w3.cell? ⟨w1.heap.size + 1, 0, none⟩ = some (.slice (some ⟨g, 0, none⟩) n cap) := (HX8.out.later hbn).cell 0; clear hown3 hb3)
                    | (refine step_append_sl _ rfl _ _ 24 rfl w8.heap.size 2 i0 _ 1 8 Try.underlying24 HI.out.1 HI.out.2.1 HI.out.2.2.1 HI.out.2.2.2 rfl (by decide) v3 k (l1.map (Value.int .i64)) rfl HO3.out w3.heap.size _ (n - (k + 1)) (cap - (k + 1)) (l2.map (Value.int .i64)) rfl ?_ (one_cells l2) ?_ ?_ hz3 ?_; (refine P3.out _ ?_; intro h; exact absurd (of_eq_true hck) h); (unfold maxLen; omega); omega; intro v4 w4 hown4 hg4 _; have hb4 : Below w8.heap.size w8 w4 := below_app hbn HO3.out hg4 (Nat.le_refl _) hz3; have hx4 : w4.cell? ⟨w1.heap.size + 1, 0, none⟩ = some (.slice (some ⟨g, 0, none⟩) n cap) := (HX8.out.later hb4).cell 0; have K4 := Lib.hid (HKo.out.later hb4); rw [← List.map_append, ← E3.out, show k + (n - (k + 1)) = n - 1 by omega] at hown4; obtain ⟨A4, g4', cap4, rfl, hg4', hnc4, hcm4, ho4⟩ := own_of_row hown4; have SL4 := Lib.hid ho4.sl; have B4 := Lib.hid hb4; have hz4 := hb4.size; clear hown4 hg4 ho4 hb4)
                    | (go_at_call 44; (with_reducible refine Calls.mono (pair_any zs c w5.heap.size (n / 2) hd6 A4 (n - 1) cap4 (leave (ordL (ptF pts) n) k) _ l5 q5 ok5 HN.out hnc4 hcm4 ?_ HMEM2.out ?_ HR5.out) ?_); (exact SL4.out); (exact K4.out); rintro e w9 ⟨v9, rfl, hown9, hb9⟩; have HO9 := Lib.hid hown9; have B9 := Lib.hid (Below.via hb9 B4.out hz4); have hx9 : w9.cell? ⟨w1.heap.size + 1, 0, none⟩ = some (.slice (some ⟨g, 0, none⟩) n cap) := (HX8.out.later B9.out).cell 0; clear hown9 hb9))
                  all_goals
                    have HOX := Lib.hid (own_baseM HO9.out (Nat.le_trans hz87 hz4))
                    have BX := Lib.hid (Below.via B9.out HB8.out hz87)
                    have HKI : Hid (F i = pairN (fun a b => metB zs a b c) (n / 2) (leave (ordL (ptF pts) n) k)) := by
                      unfold Hid
                      rw [HFK.out, show n - 1 - i = k by have := hy.out; omega]
                    have hwk : IntKind.i64.wrap ((k : Int) - 1) = (k : Int) - 1 := IntWalk.i64_in _ (by omega)
                    cases ho : pairN (fun a b => metB zs a b c) (n / 2) (leave (ordL (ptF pts) n) k)
                    case none =>
                      have h := HR5.out
                      rw [prD_none ho] at h
                      injection h with h1 h2
                      injection h2 with h2 h3
                      subst h1 h2 h3
                      have HFN : Hid (F i = none) := by unfold Hid; rw [HKI.out, ho]
                      clear ho
                      go_wp2_with fail
                      go_roundw
                      case rel =>
                        refine ⟨i + 1, (k : Int) - 1, false, 0, [], by omega, by unfold Hid; have := hy.out; omega, by first | rfl | go_num, rfl, HOX.out, fun _ j hj => ?_, fun h => (by cases h), BX.out⟩
                        rcases Nat.lt_or_ge j i with h | h
                        · exact hnone.out (by simp) j h
                        · obtain rfl : j = i := by omega
                          exact HFN.out
                      case measure => first | (simp [intOf]; done) | (simp [intOf]; omega)
                    case some r =>
                      have h := HR5.out
                      rw [prD_some ho] at h
                      injection h with h1 h2
                      injection h2 with h2 h3
                      subst h1 h2 h3
                      have HFS := Lib.hid (firstS_hit n hlt (hnone.out (by simp)) (HKI.out.trans ho))
                      clear ho
                      go_wp2_with fail
                      go_roundw
                      case rel => exact ⟨i + 1, (k : Int) - 1, true, n / 2, _, by omega, by unfold Hid; have := hy.out; omega, by first | rfl | go_num, rfl, HOX.out, fun h => (by cases h), fun _ => ⟨rfl, HFS.out⟩, BX.out⟩
                      case measure => first | (simp [intOf]; done) | (simp [intOf]; omega)
                · go_wp2_with fail
                  go_region_held3 (fun W => W.cell? ⟨w1.heap.size + 1, 0, none⟩ = some (.slice (some ⟨g, 0, none⟩) n cap)) (first | (with_reducible exact uno_drew hS0) | (with_reducible assumption)) (first
                    | (go_at_call 45; (with_reducible refine Calls.mono (copyNumbers_row _ k cap l1 _ ?_ ?_) ?_); (exact P1.out.drew); omega; rintro e w3 ⟨v3, rfl, hown3, hb3⟩; have HO3 := Lib.hid hown3; have P3 := Lib.hid (P2.out.drew.later hb3); have hbn : Below w8.heap.size w8 w3 := Below.undrew hb3; have hz3 := hbn.size; have hx3 : w3.cell? ⟨w1.heap.size + 1, 0, none⟩ = some (.slice (some ⟨g, 0, none⟩) n cap) := (HX8.out.later hbn).cell 0; clear hown3 hb3)
                    | (refine step_append_sl _ rfl _ _ 24 rfl w8.heap.size 2 i0 _ 1 8 Try.underlying24 HI.out.1 HI.out.2.1 HI.out.2.2.1 HI.out.2.2.2 rfl (by decide) v3 k (l1.map (Value.int .i64)) rfl HO3.out w3.heap.size _ (n - (k + 1)) (cap - (k + 1)) (l2.map (Value.int .i64)) rfl ?_ (one_cells l2) ?_ ?_ hz3 ?_; (refine P3.out _ ?_; intro h; simp only [Option.map_some, Go.WideShapes.add_plain, Nat.zero_add]); (unfold maxLen; omega); omega; intro v4 w4 hown4 hg4 _; have hb4 : Below w8.heap.size w8 w4 := below_app hbn HO3.out hg4 (Nat.le_refl _) hz3; have hx4 : w4.cell? ⟨w1.heap.size + 1, 0, none⟩ = some (.slice (some ⟨g, 0, none⟩) n cap) := (HX8.out.later hb4).cell 0; have K4 := Lib.hid (HKo.out.later hb4); rw [← List.map_append, ← E3.out, show k + (n - (k + 1)) = n - 1 by omega] at hown4; obtain ⟨A4, g4', cap4, rfl, hg4', hnc4, hcm4, ho4⟩ := own_of_row hown4; have SL4 := Lib.hid ho4.sl; have B4 := Lib.hid hb4; have hz4 := hb4.size; clear hown4 hg4 ho4 hb4)
                    | (go_at_call 44; (with_reducible refine Calls.mono (pair_any zs c w5.heap.size (n / 2) hd6 A4 (n - 1) cap4 (leave (ordL (ptF pts) n) k) _ l5 q5 ok5 HN.out hnc4 hcm4 ?_ HMEM2.out ?_ HR5.out) ?_); (exact SL4.out); (exact K4.out); rintro e w9 ⟨v9, rfl, hown9, hb9⟩; have HO9 := Lib.hid hown9; have B9 := Lib.hid (Below.via hb9 B4.out hz4); have hx9 : w9.cell? ⟨w1.heap.size + 1, 0, none⟩ = some (.slice (some ⟨g, 0, none⟩) n cap) := (HX8.out.later B9.out).cell 0; clear hown9 hb9))
                  all_goals
                    have HOX := Lib.hid (own_baseM HO9.out (Nat.le_trans hz87 hz4))
                    have BX := Lib.hid (Below.via B9.out HB8.out hz87)
                    have HKI : Hid (F i = pairN (fun a b => metB zs a b c) (n / 2) (leave (ordL (ptF pts) n) k)) := by
                      unfold Hid
                      rw [HFK.out, show n - 1 - i = k by have := hy.out; omega]
                    have hwk : IntKind.i64.wrap ((k : Int) - 1) = (k : Int) - 1 := IntWalk.i64_in _ (by omega)
                    cases ho : pairN (fun a b => metB zs a b c) (n / 2) (leave (ordL (ptF pts) n) k)
                    case none =>
                      have h := HR5.out
                      rw [prD_none ho] at h
                      injection h with h1 h2
                      injection h2 with h2 h3
                      subst h1 h2 h3
                      have HFN : Hid (F i = none) := by unfold Hid; rw [HKI.out, ho]
                      clear ho
                      go_wp2_with fail
                      go_roundw
                      case rel =>
                        refine ⟨i + 1, (k : Int) - 1, false, 0, [], by omega, by unfold Hid; have := hy.out; omega, by first | rfl | go_num, rfl, HOX.out, fun _ j hj => ?_, fun h => (by cases h), BX.out⟩
                        rcases Nat.lt_or_ge j i with h | h
                        · exact hnone.out (by simp) j h
                        · obtain rfl : j = i := by omega
                          exact HFN.out
                      case measure => first | (simp [intOf]; done) | (simp [intOf]; omega)
                    case some r =>
                      have h := HR5.out
                      rw [prD_some ho] at h
                      injection h with h1 h2
                      injection h2 with h2 h3
                      subst h1 h2 h3
                      have HFS := Lib.hid (firstS_hit n hlt (hnone.out (by simp)) (HKI.out.trans ho))
                      clear ho
                      go_wp2_with fail
                      go_roundw
                      case rel => exact ⟨i + 1, (k : Int) - 1, true, n / 2, _, by omega, by unfold Hid; have := hy.out; omega, by first | rfl | go_num, rfl, HOX.out, fun h => (by cases h), fun _ => ⟨rfl, HFS.out⟩, BX.out⟩
                      case measure => first | (simp [intOf]; done) | (simp [intOf]; omega)
              · obtain rfl : i = n := by omega
                obtain rfl : y = -1 := by have := hy.out; omega
                have HT : Hid (tryN (fun a b => metB zs a b c) i (ordL (ptF pts) i) = none) := HTF.out.trans (firstS_none (hnone.out rfl))
                obtain ⟨n, rfl⟩ : ∃ n, n = i := ⟨_, rfl⟩
                have h := HH.out
                rw [pbR_none HV.out HT.out] at h
                injection h with h1 h2
                injection h2 with h2 h3
                subst h1 h2 h3
                go_wp2_with fail
                go_ret2
                exact ⟨none, w.heap.size, 0, rfl, Nat.le_refl _, OwnV.none _ _ _ _ _, B8.out⟩
end Go.Proofs.Yteeplmnjipddaaa
