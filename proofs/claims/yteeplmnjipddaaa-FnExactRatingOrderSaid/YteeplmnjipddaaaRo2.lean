/- RatingOrder: the program. Conditions: lengths below 2^63. -/
import Derived.Test.YteeplmnjipddaaaSort2
namespace Go.Proofs.Yteeplmnjipddaaa
set_option linter.unusedSimpArgs false
set_option linter.unusedVariables false
open Go.RowKit Go.WideShapes

theorem blk_farR {w w' : World} {g : Nat} {t : TypeId} {cs : Array Value} {row : Option Nat} (h : Blk w g t cs) (hg : w.grownBy w' row) (hne : some g ≠ row) : Blk w' g t cs := (hg.block g h.lt hne).trans h
theorem arr_getR {l : List Int} {rest : List Value} {j : Nat} (h : j < l.length) : ((l.map (Value.int .i64) ++ rest).toArray)[j]? = some (.int .i64 (l.getD j 0)) := by
  rw [List.getElem?_toArray, List.getElem?_append_left (by rw [List.length_map]; exact h), List.getElem?_map, List.getD_eq_getElem?_getD, List.getElem?_eq_getElem h]; rfl
theorem areRated_lit (A1 : Option Addr) (n c1 : Nat) (L : List Int) (w : World) (hL : Sl w w.heap.size 2 A1 n (L.map (Value.int .i64))) (hn : n ≤ 9223372036854775807) (b : Bool) (h : okL L n = b) :
    Calls Try.prog 31 #[.slice A1 n c1] w fun e w' => e = .returned (.bool b) ∧ Below w.heap.size w w' := by
  have h1 := areRated_any A1 n c1 L w hL hn
  rw [h] at h1
  exact h1
set_option maxRecDepth 10000 in
set_option maxHeartbeats 2000000 in
theorem RatingOrder_0 (A : Option Addr) (n c : Nat) (L : List Int) (w : World) (hs : Sl w w.heap.size 2 A n (L.map (Value.int .i64))) (hn : n ≤ 100) (hok : okL L n = true) :
    Calls Try.prog 9 #[.slice A n c] w (RoPost Try.prog (ordL (rtF L) n) n 0 w) := by
  have HS := Lib.hid hs
  have HSa := Lib.hid (hs.later (Below.alloc (Below.refl _ _) (Nat.le_refl _) (.cells #[.slice A n c] 27)))
  obtain ⟨i0, ti, tz0, tz1, tz2⟩ := info_parts info_i64w
  have HI := Lib.hid (And.intro ti (And.intro tz0 (And.intro tz1 tz2)))
  have HOK := Lib.hid hok
  clear hs hok ti tz0 tz1 tz2
  go_enter Try.func9, Try.ntmps9
  go_wp2_with (go_at_call 31; (with_reducible refine Calls.mono (areRated_lit A n c L _ HSa.out (by omega) true HOK.out) ?_); rintro e w1 ⟨rfl, hb1⟩; have HBP := Lib.hid ((Blk.new w 27 #[.slice A n c]).later hb1); have hcb := HBP.out.cell 0; have hpl := HBP.out.lt; simp only [List.getElem?_toArray, List.getElem?_cons_zero] at hcb)
  have B1 : Hid (Below w.heap.size w w1) := (Below.alloc (Below.refl _ _) (Nat.le_refl _) _).trans (hb1.mono (sizeAlloc _ _))
  have hz1' := B1.out.size
  have hp1 := HBP.out.lt
  have HBo : Hid (Blk ((w1.alloc (.cells #[] 2)).alloc (.cells #[.slice (some ⟨w1.heap.size, 0, none⟩) 0 0] 24)) (w1.heap.size + 1) 24 #[.slice (some ⟨w1.heap.size, 0, none⟩) 0 0]) := Blk.new' (by simp)
  clear hb1 hcb
  go_loopw [15] (fun i wr => ∃ (j : Nat) (v : Value), j ≤ n ∧ i = .int .i64 j ∧ Blk wr (w1.heap.size + 1) 24 #[v] ∧ wr.ownsRow w1.heap.size 2 1 v j ((rangeL j).map (Value.int .i64)) ∧ v.ownBlock ≠ some (w1.heap.size + 1) ∧ Below w1.heap.size w1 wr) (fun i _ => n - (intOf i).toNat)
  case atStart => exact ⟨0, _, Nat.zero_le _, rfl, HBo.out, row_below (World.ownsRow_made _ _ 0 (Nat.le_refl _) (Nat.zero_le _) rfl) (Below.alloc (Below.refl _ _) (Nat.le_refl _) _), by intro e; injection e with e; exact absurd e (by show ¬ w1.heap.size = w1.heap.size + 1; omega), by (repeat' (first | (with_reducible exact Below.refl _ _) | (with_reducible assumption) | (with_reducible refine Below.alloc ?_ ?_ _) | (with_reducible refine Below.drew ?_) | (with_reducible refine belowDrewN ?_ _) | (with_reducible refine Below.setCell ?_ ?_ _) | (with_reducible refine Below.via (by with_reducible assumption) ?_ ?_) | (with_reducible refine Below.viaD (by with_reducible assumption) ?_ ?_) | (with_reducible exact Below.size (by with_reducible assumption)) | go_size | (with_reducible refine Nat.le_trans ?_ (Below.size (by with_reducible assumption))) | (with_reducible refine Nat.le_trans ?_ (sizeAlloc _ _)) | (with_reducible refine Nat.le_trans ?_ (sizeSet _ _ _)) | (with_reducible refine Nat.le_trans ?_ (sizeDrew _))))⟩
  case round =>
    obtain ⟨j, v, hj, rfl, hbo, hown, hno, hbl⟩ := hrel
    rename World => wo
    have HBOX := Lib.hid hbo
    have HOW := Lib.hid hown
    have HNO := Lib.hid hno
    have HBL := Lib.hid hbl
    have hzo := hbl.size
    have hbc : wo.cell? ⟨w1.heap.size + 1, 0, none⟩ = some v := hbo.cell 0
    have hlo := hbo.lt
    clear hbo hown hno hbl
    by_cases hlt : j < n
    · have HA1 : Hid ((wo.alloc (.cells #[.int .i64 j] 2)).ownsRow w1.heap.size 2 1 v j ((rangeL j).map (Value.int .i64))) := row_below HOW.out (Below.alloc (Below.refl _ _) (Nat.le_refl _) _)
      have B4 := Lib.hid (Below.alloc HBL.out hzo (.cells #[.int .i64 j] 2))
      have hz4 := B4.out.size
      have HX4 := Lib.hid (HBOX.out.later (Below.alloc (Below.refl _ _) (Nat.le_refl _) (.cells #[.int .i64 j] 2)))
      go_wp2_with (at_builtin; refine wpList_append_sl _ rfl _ _ 24 rfl w1.heap.size 2 i0 _ 1 8 Try.underlying24 HI.out.1 HI.out.2.1 HI.out.2.2.1 HI.out.2.2.2 rfl (by decide) v j ((rangeL j).map (Value.int .i64)) rfl HA1.out (wo.heap.size + 1) _ 1 1 [.int .i64 j] rfl (Sl.built rfl (Nat.lt_succ_self _) rfl) ?c1 ?c2 ?c3 ?c4 ?_)
      case c1 => intro u hu; simp at hu; subst hu; rfl
      case c2 => unfold maxLen; omega
      case c3 => omega
      case c4 => exact hz4
      intro v2 w2 hown2 hg2 hor2
      have B5 := Lib.hid (below_app B4.out HA1.out hg2 (Nat.le_refl _) hz4)
      have HO2 := Lib.hid hown2
      have HX2 := Lib.hid (blk_farR HX4.out hg2 (fun e => HNO.out e.symm))
      have HN2 : Hid (v2.ownBlock ≠ some (w1.heap.size + 1)) := by
        intro e
        rcases hor2 with h | h
        · exact HNO.out (h ▸ e)
        · rw [h] at e
          injection e with e
          simp at e
          omega
      have hc2' : w2.cell? ⟨w1.heap.size + 1, 0, none⟩ = some v := HX2.out.cell 0
      have hf2' := HX2.out.free 0
      obtain ⟨A7, g7, cap7, rfl, _, _, _, _⟩ := own_of_row hown2
      clear hown2 hg2 hor2
      go_wp2_with fail
      go_roundw
      case rel =>
        have h := HO2.out
        refine ⟨j + 1, .slice A7 (j + 1) cap7, by omega, by go_num, HX2.out.set 0 (.slice A7 (j + 1) cap7), ?_, HN2.out, Below.setCell B5.out (by simp) _⟩
        rw [rangeL_succ, List.map_append]
        exact row_set h (fun k e => by intro e2; rw [← e2] at e; exact HN2.out e) _
      case measure => first | (simp [intOf]; done) | (simp [intOf]; omega)
    · obtain rfl : j = n := by omega
      obtain ⟨A2, g, cap, rfl, hg, hncap, hmcap, ho⟩ := own_of_row HOW.out
      have HOV := Lib.hid ho
      have hgo : g ≠ w1.heap.size + 1 ∨ j = 0 := by
        rcases Nat.eq_zero_or_pos j with h | h
        · exact Or.inr h
        · left
          obtain ⟨rfl, -⟩ := ho.blk h
          exact fun e => HNO.out (by rw [← e]; rfl)
      have HGO := Lib.hid hgo
      have B2 := Lib.hid (Below.via HBL.out B1.out hz1')
      clear ho hgo
      by_cases h2 : 2 ≤ j
      case neg =>
        have HLT := Lib.hid (show j ≤ 1 by omega)
        clear h2
        go_wp2_with fail
        refine (sort_tiny HLT.out wo A2 cap _ _ _).mono ?_
        rintro e w5 ⟨rfl, hb5⟩
        have HX5 := Lib.hid (HBOX.out.later hb5)
        have hx5 : w5.cell? ⟨w1.heap.size + 1, 0, none⟩ = some (.slice A2 j cap) := HX5.out.cell 0
        have hl5 := HX5.out.lt
        have HO5 := Lib.hid (HOV.out.later hb5)
        have HB5 := Lib.hid hb5
        clear hb5 hbc
        go_wp2_with fail
        go_ret2
        refine ⟨A2, g, cap, rfl, by omega, ?_, Below.via HB5.out B2.out B2.out.size⟩
        have e : ordL (rtF L) j = rangeL j := by
          rcases (show j = 0 ∨ j = 1 by have := HLT.out; omega) with rfl | rfl
          · rfl
          · rfl
        rw [e]
        exact HO5.out
      case pos =>
        obtain ⟨rfl, rest2, hbk⟩ := HOV.out.blk (show 0 < j by omega)
        have HBK := Lib.hid hbk
        obtain ⟨bp, op, p0, p1, hA1, hbp, -, -, -, -⟩ := (HS.out).duo (show 0 < j by omega)
        subst hA1
        have HPT : Hid (∀ x, x < j → wo.cell? ⟨bp, op + x * 2, none⟩ = some (.int .i64 (L.getD (x * 2) 0))) := fun x hx => by
          obtain ⟨b', off', z, z', e, _, hz, -, hcell, -⟩ := ((HS.out.below B1.out).below (HBL.out.mono hz1')).duo hx
          injection e with e
          injection e with e1 e2
          subst e1 e2
          rw [hz.out]
          exact hcell
        have HROW : Hid (∀ x, x < j → wo.cell? ⟨g, 0 + x, none⟩ = some (.int .i64 (x : Int)) ∧ wo.frozen? ⟨g, 0 + x, none⟩ = false) := fun x hx => by
          refine ⟨?_, hbk.free _⟩
          rw [hbk.cell, Nat.zero_add, arr_getR (by rw [rangeL_len]; exact hx)]
          congr 2
          rw [List.getD_eq_getElem?_getD, rangeL, List.getElem?_map, List.getElem?_range hx]; rfl
        have HCP : Hid (wo.cell? ⟨w.heap.size, 0, none⟩ = some (.slice (some ⟨bp, op, none⟩) j c)) := (HBP.out.below HBL.out hp1).cell 0
        have HBC := Lib.hid hbc
        have hgl := hbk.lt
        have hgx : g ≠ w1.heap.size + 1 := HGO.out.resolve_right (by omega)
        have HGX := Lib.hid hgx
        have hbpl : bp < w.heap.size := hbp
        have hcp2 := HCP.out
        clear hbk hbp hgx
        go_wp2_with fail
        refine (sort_rts h2 hn wo L w.heap.size (w1.heap.size + 1) bp op c g 0 cap HCP.out HBC.out HPT.out HROW.out (by omega) (fun e => HGX.out e.symm) (by omega)).mono ?_
        rintro e w5 ⟨rfl, hg5, -, hbk5⟩
        have HO5 := Lib.hid (hbk5 2 rest2 rfl HBK.out)
        have HX5 := Lib.hid (blk_farR HBOX.out hg5 (fun e => HGX.out (by injection e with e; exact e.symm)))
        have B5 := Lib.hid (grown_below B2.out hg5 (by omega) B2.out.size)
        have hx5 : w5.cell? ⟨w1.heap.size + 1, 0, none⟩ = some (.slice (some ⟨g, 0, none⟩) j cap) := HX5.out.cell 0
        have hl5 := HX5.out.lt
        clear hg5 hbk5 hbc hcp2
        go_wp2_with fail
        go_ret2
        exact ⟨_, g, cap, rfl, by omega, ⟨by rw [List.length_map, ordL_len, Nat.mul_one], fun _ => ⟨rfl, rest2, HO5.out⟩⟩, B5.out⟩
theorem RatingOrder_any (A : Option Addr) (n c : Nat) (L : List Int) (w : World) (hs : Sl w w.heap.size 2 A n (L.map (Value.int .i64))) (hn : n ≤ 9223372036854775807) (l : List Int) (q : Nat) (code : Int) (hr : roR L n = (l, q, code)) :
    Calls Try.prog 9 #[.slice A n c] w (RoPost Try.prog l q code w) := by
  by_cases hx : rpE L [] n 0 = 0
  · have h := hr.symm.trans (roR_0 hx)
    injection h with h1 h2
    injection h2 with h2 h3
    subst h1 h2 h3
    exact RatingOrder_0 A _ c L w hs (roE_n hx).1 (roE_n hx).2
  · have HR := Lib.hid hr
    have HSa := Lib.hid (hs.later (Below.alloc (Below.refl _ _) (Nat.le_refl _) (.cells #[.slice A n c] 27)))
    cases hok : okL L n
    case false =>
      have HOK := Lib.hid hok
      have HN : Hid (roR L n = ([], 0, 1)) := roR_ne (by rw [roE, hok]; rfl) (by decide)
      clear hx hr hok hs
      go_enter Try.func9, Try.ntmps9
      go_wp2_with (go_at_call 31; refine (areRated_lit A n c L _ HSa.out hn false HOK.out).mono ?_; rintro e w1 ⟨rfl, hb1⟩; obtain ⟨hc1, hf1, hl1, hz1⟩ := bfacts hb1; (try simp only [World.size_alloc, World.size_setCell, World.size_drew] at hz1))
      go_ret2
      exact ro_fin HN.out HR.out (by (repeat' (first | (with_reducible exact Below.refl _ _) | (with_reducible assumption) | (with_reducible refine Below.alloc ?_ ?_ _) | (with_reducible refine Below.drew ?_) | (with_reducible refine belowDrewN ?_ _) | (with_reducible refine Below.setCell ?_ ?_ _) | (with_reducible refine Below.via (by with_reducible assumption) ?_ ?_) | (with_reducible refine Below.viaD (by with_reducible assumption) ?_ ?_) | (with_reducible exact Below.size (by with_reducible assumption)) | go_size | (with_reducible refine Nat.le_trans ?_ (Below.size (by with_reducible assumption))) | (with_reducible refine Nat.le_trans ?_ (sizeAlloc _ _)) | (with_reducible refine Nat.le_trans ?_ (sizeSet _ _ _)) | (with_reducible refine Nat.le_trans ?_ (sizeDrew _)))))
    case true =>
      have HOK := Lib.hid hok
      have hbig : 100 < n := by
        rcases Nat.lt_or_ge 100 n with h | h
        · exact h
        · exact absurd (by rw [roE, hok, if_pos rfl, if_pos h]) hx
      have HN : Hid (roR L n = ([], 0, 5)) := roR_ne (by rw [roE, hok, if_pos rfl, if_neg (by omega)]) (by decide)
      clear hx hr hok hs
      go_enter Try.func9, Try.ntmps9
      go_wp2_with (go_at_call 31; (with_reducible refine Calls.mono (areRated_lit A n c L _ HSa.out hn true HOK.out) ?_); rintro e w1 ⟨rfl, hb1⟩; have HBP := Lib.hid ((Blk.new w 27 #[.slice A n c]).later hb1); have hcb := HBP.out.cell 0; have hpl := HBP.out.lt; simp only [List.getElem?_toArray, List.getElem?_cons_zero] at hcb)
      go_ret2
      exact ro_fin HN.out HR.out (by (repeat' (first | (with_reducible exact Below.refl _ _) | (with_reducible assumption) | (with_reducible refine Below.alloc ?_ ?_ _) | (with_reducible refine Below.drew ?_) | (with_reducible refine belowDrewN ?_ _) | (with_reducible refine Below.setCell ?_ ?_ _) | (with_reducible refine Below.via (by with_reducible assumption) ?_ ?_) | (with_reducible refine Below.viaD (by with_reducible assumption) ?_ ?_) | (with_reducible exact Below.size (by with_reducible assumption)) | go_size | (with_reducible refine Nat.le_trans ?_ (Below.size (by with_reducible assumption))) | (with_reducible refine Nat.le_trans ?_ (sizeAlloc _ _)) | (with_reducible refine Nat.le_trans ?_ (sizeSet _ _ _)) | (with_reducible refine Nat.le_trans ?_ (sizeDrew _)))))
end Go.Proofs.Yteeplmnjipddaaa
