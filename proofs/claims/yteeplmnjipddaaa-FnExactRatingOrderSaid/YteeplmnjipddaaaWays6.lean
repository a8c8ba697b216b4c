/- Pairings: players by their points, by the reference. Conditions: at most 12 players. -/
import Derived.Test.YteeplmnjipddaaaWays5
import Derived.Test.YteeplmnjipddaaaMv
namespace Go.Proofs.Yteeplmnjipddaaa
set_option linter.unusedSimpArgs false
set_option linter.unusedVariables false
open Go.RowKit Go.WideShapes

/-- The place for points v among the first k players. -/
def posL (F : Int → Int) (v : Int) (O : List Int) : Nat → Nat
  | 0 => 0
  | k + 1 => if F (O.getD k 0) < v then posL F v O k else k + 1
theorem posL_le (F : Int → Int) (v : Int) (O : List Int) : ∀ k, posL F v O k ≤ k
  | 0 => Nat.le_refl _
  | k + 1 => by
    rw [posL]
    split
    · exact Nat.le_succ_of_le (posL_le F v O k)
    · exact Nat.le_refl _
/-- The first n players by their points, the greatest ones first, then by number. -/
def ordL (F : Int → Int) : Nat → List Int
  | 0 => []
  | i + 1 => (ordL F i).take (posL F (F i) (ordL F i) i) ++ [(i : Int)] ++ (ordL F i).drop (posL F (F i) (ordL F i) i)
theorem ordL_len (F : Int → Int) : ∀ n, (ordL F n).length = n
  | 0 => rfl
  | n + 1 => by
    have h := ordL_len F n
    have h2 := posL_le F (F n) (ordL F n) n
    rw [ordL, List.length_append, List.length_append, List.length_take, List.length_drop, h]
    simp only [List.length_cons, List.length_nil]
    omega
theorem ordL_mem (F : Int → Int) : ∀ n x, x ∈ ordL F n → 0 ≤ x ∧ x < n
  | 0, x, h => by simp [ordL] at h
  | n + 1, x, h => by
    rw [ordL, List.mem_append, List.mem_append] at h
    rcases h with (h | h) | h
    · have := ordL_mem F n x (List.mem_of_mem_take h); omega
    · simp at h; omega
    · have := ordL_mem F n x (List.mem_of_mem_drop h); omega
def ptF (pts : List Int) (x : Int) : Int := pts.getD x.toNat 0
theorem Sl.takew {w : World} {B n k : Nat} {A : Option Addr} {zs : List Int} (h : Sl w B 1 A n (zs.map (Value.int .i64))) (hk : k ≤ n) : Sl w B 1 A k ((zs.take k).map (Value.int .i64)) := by
  have hlen := h.ints
  refine ⟨by rw [List.length_map, List.length_take]; omega, fun hp => ?_⟩
  obtain ⟨b, off, e, hb, hcc⟩ := h.2 (by omega)
  refine ⟨b, off, e, hb, fun j u hu => hcc j u ?_⟩
  rw [List.getElem?_map, List.getElem?_take] at hu
  split at hu
  · rw [List.getElem?_map]; exact hu
  · simp at hu
set_option maxRecDepth 10000 in
set_option maxHeartbeats 1500000 in
theorem l24Order_any (A : Option Addr) (n c : Nat) (pts : List Int) (w : World) (hs : Sl w w.heap.size 1 A n (pts.map (Value.int .i64))) (hn : n ≤ 12) :
    Calls Try.prog 36 #[.slice A n c] w (RowV Try.prog (ordL (ptF pts) n) n w) := by
  obtain ⟨i0, ti, tz0, tz1, tz2⟩ := info_parts info_i64w
  have HI := Lib.hid (And.intro ti (And.intro tz0 (And.intro tz1 tz2)))
  have HS := Lib.hid hs
  have HPL := Lib.hid hs.ints
  clear hs ti tz0 tz1 tz2
  go_enter Try.func36, Try.ntmps36
  go_wp2
  go_loopw [3, 4] (fun v i wr => ∃ j : Nat, j ≤ n ∧ i = .int .i64 j ∧ wr.ownsRow w.heap.size 2 1 v j ((ordL (ptF pts) j).map (Value.int .i64)) ∧ Below w.heap.size w wr) (fun _ i _ => n - (intOf i).toNat)
  case atStart => exact ⟨0, Nat.zero_le _, rfl, World.ownsRow_made _ _ 0 (Nat.le_refl _) (Nat.zero_le _) rfl, by (repeat' (first | (with_reducible exact Below.refl _ _) | (with_reducible assumption) | (with_reducible refine Below.alloc ?_ ?_ _) | (with_reducible refine Below.drew ?_) | (with_reducible refine belowDrewN ?_ _) | (with_reducible refine Below.setCell ?_ ?_ _) | (with_reducible refine Below.via (by with_reducible assumption) ?_ ?_) | (with_reducible refine Below.viaD (by with_reducible assumption) ?_ ?_) | (with_reducible exact Below.size (by with_reducible assumption)) | go_size | (with_reducible refine Nat.le_trans ?_ (Below.size (by with_reducible assumption))) | (with_reducible refine Nat.le_trans ?_ (sizeAlloc _ _)) | (with_reducible refine Nat.le_trans ?_ (sizeSet _ _ _)) | (with_reducible refine Nat.le_trans ?_ (sizeDrew _))))⟩
  case round =>
    obtain ⟨j, hj, rfl, hown, hbl⟩ := hrel
    rename World => wo
    have HBL := Lib.hid hbl
    have hzo := hbl.size
    have HOW := Lib.hid hown
    obtain ⟨A1, g1, cap1, rfl, hg1, hnc1, hcm1, ho1⟩ := own_of_row hown
    have SO := Lib.hid ho1.sl
    clear hown ho1
    by_cases hlt : j < n
    · have HSo := Lib.hid (HS.out.later hbl)
      obtain ⟨O, hO⟩ : ∃ O, ordL (ptF pts) j = O := ⟨_, rfl⟩
      have HO := Lib.hid hO
      have hOl : O.length = j := by rw [← hO]; exact ordL_len _ _
      have HOM : Hid (∀ k, k < j → 0 ≤ O.getD k 0 ∧ O.getD k 0 < j) := fun k hk => by
        refine ordL_mem (ptF pts) j _ ?_
        rw [hO]
        exact getD_mem 0 (by omega)
      have HNX : Hid (ordL (ptF pts) (j + 1) = O.take (posL (ptF pts) (ptF pts j) O j) ++ [(j : Int)] ++ O.drop (posL (ptF pts) (ptF pts j) O j)) := by unfold Hid; rw [ordL, hO]
      obtain ⟨v, hv⟩ : ∃ v, ptF pts j = v := ⟨_, rfl⟩
      have HV := Lib.hid hv
      rw [HO.out] at SO HOW
      rw [hv] at HNX
      clear hO hbl hv
      have HOL := Lib.hid hOl
      clear hOl
      go_wp2
      go_loopw [5] (fun s wr => ∃ k : Nat, k ≤ j ∧ s = .int .i64 k ∧ posL (ptF pts) v O j = posL (ptF pts) v O k ∧ Below wo.heap.size wo wr) (fun s _ => (intOf s).toNat)
      case atStart => exact ⟨j, Nat.le_refl _, rfl, rfl, by (repeat' (first | (with_reducible exact Below.refl _ _) | (with_reducible assumption) | (with_reducible refine Below.alloc ?_ ?_ _) | (with_reducible refine Below.drew ?_) | (with_reducible refine belowDrewN ?_ _) | (with_reducible refine Below.setCell ?_ ?_ _) | (with_reducible refine Below.via (by with_reducible assumption) ?_ ?_) | (with_reducible refine Below.viaD (by with_reducible assumption) ?_ ?_) | (with_reducible exact Below.size (by with_reducible assumption)) | go_size | (with_reducible refine Nat.le_trans ?_ (Below.size (by with_reducible assumption))) | (with_reducible refine Nat.le_trans ?_ (sizeAlloc _ _)) | (with_reducible refine Nat.le_trans ?_ (sizeSet _ _ _)) | (with_reducible refine Nat.le_trans ?_ (sizeDrew _))))⟩
      case round =>
        obtain ⟨k, hk, rfl, hpos, hbl2⟩ := hrel
        rename World => wp
        have HPOS := Lib.hid hpos
        have HB2 := Lib.hid hbl2
        have hzp := hbl2.size
        clear hpos
        have SP := Lib.hid (SO.out.later hbl2)
        have HSP := Lib.hid (HSo.out.later hbl2)
        have HOP := Lib.hid (row_below HOW.out hbl2)
        clear hbl2
        have PA := Lib.hid (SP.out.takew hk)
        have PB : Hid (Part wp cap1 j k j A1 (O.drop k)) := fun A' hA => by
          have := SP.out.partw (c := cap1) (l := k) (k := j) (A' := A') hk (Nat.le_refl _) hnc1 hA
          rwa [List.take_of_length_le (by rw [List.length_drop, HOL.out]; exact Nat.le_refl _)] at this
        have hz : pts.getD j 0 = v := by rw [← HV.out, ptF, Int.toNat_natCast]
        obtain ⟨p, hp⟩ : ∃ p, k - 1 = p := ⟨_, rfl⟩
        have HP := Lib.hid hp
        have hcase : (k = 0 ∨ (0 < k ∧ ¬ ptF pts (O.getD p 0) < v)) ∨ (0 < k ∧ ptF pts (O.getD p 0) < v) := by
          by_cases h0 : 0 < k
          · by_cases h1 : ptF pts (O.getD p 0) < v
            · exact Or.inr ⟨h0, h1⟩
            · exact Or.inl (Or.inr ⟨h0, h1⟩)
          · exact Or.inl (Or.inl (by omega))
        have HCASE := Lib.hid hcase
        clear hcase hp
        have HZ := Lib.hid hz
        clear hz
        by_cases h0 : 0 < k
        case neg =>
          have hd0 : decide ((0 : Int) < (k : Int)) = false := decide_eq_false (by omega)
          have HEQ : Hid (posL (ptF pts) v O j = k) := by unfold Hid; rw [HPOS.out, show k = 0 by omega, posL]
          go_wp2_with fail
          first | (refine wp_region_quiet_lit (by kernel_rfl) (by kernel_rfl) ?_; refine WQ.of ?_; (repeat (refine WQ.step (fun K hK => ?_); go_simp; first | (refine hK _ ?_; clear hK K) | (apply Exists.intro; refine ⟨fun _ => ?_, hK _ ?_⟩; (fail); clear hK K))); refine WQ.nil ?_; intro _ hw'; obtain ⟨nq, hw''⟩ := hw'; subst hw'') | go_quiet (fail)
          have g1 : (0 : Int) ≤ (k : Int) := by omega
          have g2 : (k : Int) ≤ (cap1 : Int) := by omega
          have g3 : (k : Int) ≤ (j : Int) := by omega
          have B2 := Lib.hid (Below.via HB2.out HBL.out hzo)
          go_wp2_with fail
          refine (l00Own_row _ k cap1 (O.take k) _ ?_ (by omega)).mono ?_
          · exact PA.out.drewN _
          rintro e w1 ⟨v1, rfl, hown1, hb1⟩
          have B3 : Hid (Below wp.heap.size wp w1) := Below.undrewN hb1
          have HO1 : Hid (w1.ownsRow wp.heap.size 2 1 v1 k ((O.take k).map (Value.int .i64))) := hown1
          have hz1 := B3.out.size
          clear hown1 hb1
          have HA1 : Hid ((w1.alloc (.cells #[.int .i64 j] 2)).ownsRow wp.heap.size 2 1 v1 k ((O.take k).map (Value.int .i64))) := row_below HO1.out (Below.alloc (Below.refl _ _) (Nat.le_refl _) _)
          have B4 := Lib.hid (Below.alloc B3.out hz1 (.cells #[.int .i64 j] 2))
          have hz4 := B4.out.size
          go_wp2_with (at_builtin; refine wpList_append_sl _ rfl _ _ 24 rfl wp.heap.size 2 i0 _ 1 8 Try.underlying24 HI.out.1 HI.out.2.1 HI.out.2.2.1 HI.out.2.2.2 rfl (by decide) v1 k ((O.take k).map (Value.int .i64)) rfl HA1.out (w1.heap.size + 1) _ 1 1 [.int .i64 j] rfl (Sl.built rfl (Nat.lt_succ_self _) rfl) ?c1 ?c2 ?c3 ?c4 ?_)
          case c1 => intro u hu; simp at hu; subst hu; rfl
          case c2 => unfold maxLen; omega
          case c3 => omega
          case c4 => exact hz4
          intro v2 w2 hown2 hg2 _
          have B5 := Lib.hid (below_app B4.out HA1.out hg2 (Nat.le_refl _) hz4)
          have hz5 := B5.out.size
          have HO2 := Lib.hid hown2
          have P2 := Lib.hid (PB.out.later B5.out)
          clear hown2 hg2
          have HCK : (cap1 = k) = True ∨ (cap1 = k) = False := by
            by_cases h : cap1 = k
            · exact Or.inl (eq_true h)
            · exact Or.inr (eq_false h)
          rcases HCK with hck | hck
          all_goals
            go_wp2_with (at_builtin; refine wpList_append_sl _ rfl _ _ 24 rfl wp.heap.size 2 i0 _ 1 8 Try.underlying24 HI.out.1 HI.out.2.1 HI.out.2.2.1 HI.out.2.2.2 rfl (by decide) v2 (k + 1) _ rfl HO2.out w2.heap.size _ (j - k) (cap1 - k) ((O.drop k).map (Value.int .i64)) rfl (P2.out _ (fun h => by first | exact absurd (of_eq_true hck) h | (simp only [Option.map_some, Go.WideShapes.add_plain]; done) | (simp [Addr.add, h]; done))) ?c1 ?c2 ?c3 ?c4 ?_)
            case c1 => exact one_cells _
            case c2 => unfold maxLen; omega
            case c3 => omega
            case c4 => exact hz5
            intro v3 w3 hown3 hg3 _
            have B6 := Lib.hid (Below.via (below_app B5.out HO2.out hg3 (Nat.le_refl _) hz5) B2.out B2.out.size)
            have hown4 := own_baseM hown3 (Nat.le_trans hzo hzp)
            have HO3 := Lib.hid hown4
            clear hown3 hown4 hg3
            go_wp2_with fail
            go_roundw
            case rel =>
              have h := HO3.out
              rw [show k + 1 + (j - k) = j + 1 by omega] at h
              refine ⟨j + 1, by omega, by go_num, ?_, B6.out⟩
              rw [HNX.out, HEQ.out, List.map_append, List.map_append, List.append_assoc]
              simpa using h
            case measure => first | (simp [intOf]; done) | (simp [intOf]; omega)
        case pos =>
          have hd0 : decide ((0 : Int) < (k : Int)) = true := decide_eq_true (by omega)
          have hw : IntKind.i64.wrap ((k : Int) - 1) = (p : Int) := by rw [IntWalk.i64_in _ (by omega)]; have := HP.out; omega
          have hpj : p < j := by have := HP.out; omega
          obtain ⟨x0, x1⟩ := HOM.out p hpj
          obtain ⟨b1, off1, x, rfl, hb1, hx, hc1⟩ := SP.out.int hpj
          rw [hx.out] at x0 x1
          obtain ⟨X, rfl⟩ := Int.eq_ofNat_of_zero_le x0
          have hXn : X < n := by omega
          obtain ⟨b2, off2, y, rfl, hb2, hy, hc2⟩ := HSP.out.int hXn
          obtain ⟨b3, off3, z, e3, _, hz, hc3⟩ := HSP.out.int hlt
          injection e3 with e3
          injection e3 with e4 e5
          subst e4 e5
          have hzv : z = v := by rw [← hz.out]; exact HZ.out
          subst hzv
          have HFX : Hid (ptF pts (O.getD p 0) = y) := by unfold Hid; rw [hx.out, ptF, Int.toNat_natCast]; exact hy.out
          by_cases hyz : y < z
          case pos =>
            have hd1 : decide (y < z) = true := decide_eq_true hyz
            have HEQ : Hid (posL (ptF pts) z O k = posL (ptF pts) z O p) := by
              unfold Hid
              have h : posL (ptF pts) z O (p + 1) = if ptF pts (O.getD p 0) < z then posL (ptF pts) z O p else p + 1 := rfl
              rw [if_pos (by rw [HFX.out]; exact hyz)] at h
              rw [← h, show p + 1 = k by have := HP.out; omega]
            clear hyz x0 x1
            go_wp2_with fail
            first | (refine wp_region_quiet_lit (by kernel_rfl) (by kernel_rfl) ?_; refine WQ.of ?_; (repeat (refine WQ.step (fun K hK => ?_); go_simp; first | (refine hK _ ?_; clear hK K) | (apply Exists.intro; refine ⟨fun _ => ?_, hK _ ?_⟩; (fail); clear hK K))); refine WQ.nil ?_; intro _ hw'; obtain ⟨nq, hw''⟩ := hw'; subst hw'') | go_quiet (fail)
            go_wp2_with fail
            have hbl2 := HB2.out
            go_roundw
            case rel => exact ⟨p, by omega, by first | rfl | (rw [hw]; rfl) | go_num, by rw [HPOS.out, HEQ.out], by (repeat' (first | (with_reducible exact Below.refl _ _) | (with_reducible assumption) | (with_reducible refine Below.alloc ?_ ?_ _) | (with_reducible refine Below.drew ?_) | (with_reducible refine belowDrewN ?_ _) | (with_reducible refine Below.setCell ?_ ?_ _) | (with_reducible refine Below.via (by with_reducible assumption) ?_ ?_) | (with_reducible refine Below.viaD (by with_reducible assumption) ?_ ?_) | (with_reducible exact Below.size (by with_reducible assumption)) | go_size | (with_reducible refine Nat.le_trans ?_ (Below.size (by with_reducible assumption))) | (with_reducible refine Nat.le_trans ?_ (sizeAlloc _ _)) | (with_reducible refine Nat.le_trans ?_ (sizeSet _ _ _)) | (with_reducible refine Nat.le_trans ?_ (sizeDrew _))))⟩
            case measure => have := HP.out; first | (simp [intOf]; done) | (simp [intOf]; omega)
          case neg =>
            have hd1 : decide (y < z) = false := decide_eq_false hyz
            have HEQ : Hid (posL (ptF pts) z O j = k) := by
              unfold Hid
              have h : posL (ptF pts) z O (p + 1) = if ptF pts (O.getD p 0) < z then posL (ptF pts) z O p else p + 1 := rfl
              rw [if_neg (by rw [HFX.out]; exact hyz)] at h
              rw [HPOS.out, show k = p + 1 by have := HP.out; omega, h]
            clear hyz x0 x1
            go_wp2_with fail
            first | (refine wp_region_quiet_lit (by kernel_rfl) (by kernel_rfl) ?_; refine WQ.of ?_; (repeat (refine WQ.step (fun K hK => ?_); go_simp; first | (refine hK _ ?_; clear hK K) | (apply Exists.intro; refine ⟨fun _ => ?_, hK _ ?_⟩; (fail); clear hK K))); refine WQ.nil ?_; intro _ hw'; obtain ⟨nq, hw''⟩ := hw'; subst hw'') | go_quiet (fail)
            have g1 : (0 : Int) ≤ (k : Int) := by omega
            have g2 : (k : Int) ≤ (cap1 : Int) := by omega
            have g3 : (k : Int) ≤ (j : Int) := by omega
            have B2 := Lib.hid (Below.via HB2.out HBL.out hzo)
            go_wp2_with fail
            refine (l00Own_row _ k cap1 (O.take k) _ ?_ (by omega)).mono ?_
            · exact PA.out.drewN _
            rintro e w1 ⟨v1, rfl, hown1, hb1⟩
            have B3 : Hid (Below wp.heap.size wp w1) := Below.undrewN hb1
            have HO1 : Hid (w1.ownsRow wp.heap.size 2 1 v1 k ((O.take k).map (Value.int .i64))) := hown1
            have hz1 := B3.out.size
            clear hown1 hb1
            have HA1 : Hid ((w1.alloc (.cells #[.int .i64 j] 2)).ownsRow wp.heap.size 2 1 v1 k ((O.take k).map (Value.int .i64))) := row_below HO1.out (Below.alloc (Below.refl _ _) (Nat.le_refl _) _)
            have B4 := Lib.hid (Below.alloc B3.out hz1 (.cells #[.int .i64 j] 2))
            have hz4 := B4.out.size
            go_wp2_with (at_builtin; refine wpList_append_sl _ rfl _ _ 24 rfl wp.heap.size 2 i0 _ 1 8 Try.underlying24 HI.out.1 HI.out.2.1 HI.out.2.2.1 HI.out.2.2.2 rfl (by decide) v1 k ((O.take k).map (Value.int .i64)) rfl HA1.out (w1.heap.size + 1) _ 1 1 [.int .i64 j] rfl (Sl.built rfl (Nat.lt_succ_self _) rfl) ?c1 ?c2 ?c3 ?c4 ?_)
            case c1 => intro u hu; simp at hu; subst hu; rfl
            case c2 => unfold maxLen; omega
            case c3 => omega
            case c4 => exact hz4
            intro v2 w2 hown2 hg2 _
            have B5 := Lib.hid (below_app B4.out HA1.out hg2 (Nat.le_refl _) hz4)
            have hz5 := B5.out.size
            have HO2 := Lib.hid hown2
            have P2 := Lib.hid (PB.out.later B5.out)
            clear hown2 hg2
            have HCK : (cap1 = k) = True ∨ (cap1 = k) = False := by
              by_cases h : cap1 = k
              · exact Or.inl (eq_true h)
              · exact Or.inr (eq_false h)
            rcases HCK with hck | hck
            all_goals
              go_wp2_with (at_builtin; refine wpList_append_sl _ rfl _ _ 24 rfl wp.heap.size 2 i0 _ 1 8 Try.underlying24 HI.out.1 HI.out.2.1 HI.out.2.2.1 HI.out.2.2.2 rfl (by decide) v2 (k + 1) _ rfl HO2.out w2.heap.size _ (j - k) (cap1 - k) ((O.drop k).map (Value.int .i64)) rfl (P2.out _ (fun h => by first | exact absurd (of_eq_true hck) h | (simp only [Option.map_some, Go.WideShapes.add_plain]; done) | (simp [Addr.add, h]; done))) ?c1 ?c2 ?c3 ?c4 ?_)
              case c1 => exact one_cells _
              case c2 => unfold maxLen; omega
              case c3 => omega
              case c4 => exact hz5
              intro v3 w3 hown3 hg3 _
              have B6 := Lib.hid (Below.via (below_app B5.out HO2.out hg3 (Nat.le_refl _) hz5) B2.out B2.out.size)
              have hown4 := own_baseM hown3 (Nat.le_trans hzo hzp)
              have HO3 := Lib.hid hown4
              clear hown3 hown4 hg3
              go_wp2_with fail
              go_roundw
              case rel =>
                have h := HO3.out
                rw [show k + 1 + (j - k) = j + 1 by omega] at h
                refine ⟨j + 1, by omega, by go_num, ?_, B6.out⟩
                rw [HNX.out, HEQ.out, List.map_append, List.map_append, List.append_assoc]
                simpa using h
              case measure => first | (simp [intOf]; done) | (simp [intOf]; omega)
    · obtain rfl : j = n := by omega
      go_wp2
      go_ret
      exact ⟨_, rfl, HOW.out, hbl⟩
end Go.Proofs.Yteeplmnjipddaaa
