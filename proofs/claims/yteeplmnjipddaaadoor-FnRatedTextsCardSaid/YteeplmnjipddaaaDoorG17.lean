/- RatingOrder by the reference. Conditions: lengths below 2^63. -/
import Derived.Test.YteeplmnjipddaaaDoorG13
import Derived.Test.YteeplmnjipddaaaDoorG16
namespace Go.Proofs.YteeplmnjipddaaaDoor
set_option linter.unusedSimpArgs false
set_option linter.unusedVariables false
open Go.RowKit Go.WideShapes

/-- The rating at a place. -/
def rtF (L : List Int) (x : Int) : Int := L.getD (x.toNat * 2) 0
/-- What RatingOrder returns. -/
def roR (L : List Int) (n : Nat) : List Int × Nat × Int := if rpE L [] n 0 = 0 then (ordL (rtF L) n, n, 0) else ([], 0, rpE L [] n 0)
theorem roR_0 {L : List Int} {n : Nat} (h : rpE L [] n 0 = 0) : roR L n = (ordL (rtF L) n, n, 0) := by rw [roR, if_pos h]
theorem roR_ne {L : List Int} {n : Nat} {c : Int} (h : rpE L [] n 0 = c) (hc : c ≠ 0) : roR L n = ([], 0, c) := by rw [roR, if_neg (by rw [h]; exact hc), h]
theorem roE (L : List Int) (n : Nat) : rpE L [] n 0 = if okL L n then (if n ≤ 100 then 0 else 5) else 1 := by
  rw [rpE, show okG [] n 0 = true from rfl, if_pos rfl]
  congr 1
  by_cases h : n ≤ 100
  · rw [if_pos ⟨h, by omega⟩, if_pos h]
  · rw [if_neg (fun x => h x.1), if_neg h]
theorem roE_n {L : List Int} {n : Nat} (h : rpE L [] n 0 = 0) : n ≤ 100 ∧ okL L n = true := by
  rw [roE] at h
  cases g : okL L n
  · rw [g, if_neg (by decide)] at h; exact absurd h (by decide)
  · rw [g] at h
    by_cases q : n ≤ 100
    · exact ⟨q, rfl⟩
    · rw [if_pos rfl, if_neg q] at h; exact absurd h (by decide)
def RoPost (P : Program) (l : List Int) (q : Nat) (code : Int) (w : World) (e : Ending) (w' : World) : Prop :=
  ∃ (A : Option Addr) (g cap : Nat), e = .returned (.tuple #[.slice A q cap, .int .i64 code]) ∧ w.heap.size ≤ g ∧ OwnV w' g 2 1 A q (l.map (Value.int .i64)) ∧ Below w.heap.size w w'
theorem ro_fin {L l : List Int} {n q : Nat} {c code : Int} {w w' : World} (h : roR L n = ([], 0, c)) (hr : roR L n = (l, q, code)) (hb : Below w.heap.size w w') : RoPost Tryd.prog l q code w (.returned (.tuple #[.slice none 0 0, .int .i64 c])) w' := by
  have e := hr.symm.trans h
  injection e with e1 e2
  injection e2 with e2 e3
  subst e1 e2 e3
  exact ⟨none, w.heap.size, 0, rfl, Nat.le_refl _, OwnV.none _ _ _ _ _, hb⟩
set_option maxRecDepth 10000 in
set_option maxHeartbeats 2000000 in
theorem sRatingOrder_0 (A : Option Addr) (n c : Nat) (L : List Int) (w : World) (hs : Sl w w.heap.size 2 A n (L.map (Value.int .i64))) (hn : n ≤ 100) (he : rpE L [] n 0 = 0) :
    Calls Tryd.prog 12 #[.slice A n c] w (RoPost Tryd.prog (ordL (rtF L) n) n 0 w) := by
  obtain ⟨i0, ti, tz0, tz1, tz2⟩ := info_parts info_i64w
  have HI := Lib.hid (And.intro ti (And.intro tz0 (And.intro tz1 tz2)))
  have HS := Lib.hid hs
  have HE := Lib.hid he
  clear hs ti tz0 tz1 tz2 he
  go_enter Tryd.func12, Tryd.ntmps12
  go_wp2_with (go_at_call 31; (with_reducible refine Calls.mono (l25Code_any A none n c 0 0 L [] _ HS.out (Sl.nil _ _ _ _) (by omega) (by omega)) ?_); rw [HE.out]; rintro e w0 ⟨rfl, hb0⟩)
  have HS := Lib.hid (HS.out.later hb0)
  have B0 := Lib.hid hb0
  have hz0 := hb0.size
  clear hb0
  go_loopw [5, 6] (fun v i wr => ∃ j : Nat, j ≤ n ∧ i = .int .i64 j ∧ wr.ownsRow w0.heap.size 2 1 v j ((ordL (rtF L) j).map (Value.int .i64)) ∧ Below w0.heap.size w0 wr) (fun _ i _ => n - (intOf i).toNat)
  case atStart => exact ⟨0, Nat.zero_le _, rfl, World.ownsRow_made _ _ 0 (Nat.le_refl _) (Nat.zero_le _) rfl, by (repeat' (first | (with_reducible exact Below.refl _ _) | (with_reducible assumption) | (with_reducible refine Below.alloc ?_ ?_ _) | (with_reducible refine Below.drew ?_) | (with_reducible refine belowDrewN ?_ _) | (with_reducible refine Below.setCell ?_ ?_ _) | (with_reducible refine Below.via (by with_reducible assumption) ?_ ?_) | (with_reducible refine Below.viaD (by with_reducible assumption) ?_ ?_) | (with_reducible exact Below.size (by with_reducible assumption)) | go_size | (with_reducible refine Nat.le_trans ?_ (Below.size (by with_reducible assumption))) | (with_reducible refine Nat.le_trans ?_ (sizeAlloc _ _)) | (with_reducible refine Nat.le_trans ?_ (sizeSet _ _ _)) | (with_reducible refine Nat.le_trans ?_ (sizeDrew _))))⟩
  case round =>
    obtain ⟨j, hj, rfl, hown, hbl⟩ := hrel
    rename World => wo
    have HBL := Lib.hid hbl
    have hzo := hbl.size
    have HOW := Lib.hid hown
    obtain ⟨A1, g1, cap1, rfl, hg1, hnc1, hcm1, ho1⟩ := own_of_row hown
    have SO := Lib.hid ho1.sl
    have HOV := Lib.hid ho1
    clear hown ho1
    by_cases hlt : j < n
    · have HSo := Lib.hid (HS.out.later hbl)
      obtain ⟨O, hO⟩ : ∃ O, ordL (rtF L) j = O := ⟨_, rfl⟩
      have HO := Lib.hid hO
      have hOl : O.length = j := by rw [← hO]; exact ordL_len _ _
      have HOM : Hid (∀ k, k < j → 0 ≤ O.getD k 0 ∧ O.getD k 0 < j) := fun k hk => by
        refine ordL_mem (rtF L) j _ ?_
        rw [hO]
        exact getD_mem 0 (by omega)
      have HNX : Hid (ordL (rtF L) (j + 1) = O.take (posL (rtF L) (rtF L j) O j) ++ [(j : Int)] ++ O.drop (posL (rtF L) (rtF L j) O j)) := by unfold Hid; rw [ordL, hO]
      obtain ⟨v, hv⟩ : ∃ v, rtF L j = v := ⟨_, rfl⟩
      have HV := Lib.hid hv
      rw [HO.out] at SO HOW
      rw [hv] at HNX
      clear hO hbl hv
      have HOL := Lib.hid hOl
      clear hOl
      go_wp2
      go_loopw [7] (fun s wr => ∃ k : Nat, k ≤ j ∧ s = .int .i64 k ∧ posL (rtF L) v O j = posL (rtF L) v O k ∧ Below wo.heap.size wo wr) (fun s _ => (intOf s).toNat)
      case atStart => exact ⟨j, Nat.le_refl _, rfl, rfl, by (repeat' (first | (with_reducible exact Below.refl _ _) | (with_reducible assumption) | (with_reducible refine Below.alloc ?_ ?_ _) | (with_reducible refine Below.drew ?_) | (with_reducible refine belowDrewN ?_ _) | (with_reducible refine Below.setCell ?_ ?_ _) | (with_reducible refine Below.via (by with_reducible assumption) ?_ ?_) | (with_reducible refine Below.viaD (by with_reducible assumption) ?_ ?_) | (with_reducible exact Below.size (by with_reducible assumption)) | go_size | (with_reducible refine Nat.le_trans ?_ (Below.size (by with_reducible assumption))) | (with_reducible refine Nat.le_trans ?_ (sizeAlloc _ _)) | (with_reducible refine Nat.le_trans ?_ (sizeSet _ _ _)) | (with_reducible refine Nat.le_trans ?_ (sizeDrew _))))⟩
      case round =>
        obtain ⟨k, hk, rfl, hpos, hbl2⟩ := hrel
        rename World => wp
        have HPOS := Lib.hid hpos
        have HB2 := Lib.hid hbl2
        have hzp := hbl2.size
        clear hpos
        have SP := Lib.hid (SO.out.later hbl2)
        have HSP := Lib.hid (HSo.out.later hbl2)
        have HOP := Lib.hid (row_below HOW.out hbl2)
        clear hbl2
        have PA := Lib.hid (SP.out.takew hk)
        have PB : Hid (Part wp cap1 j k j A1 (O.drop k)) := fun A' hA => by
          have := SP.out.partw (c := cap1) (l := k) (k := j) (A' := A') hk (Nat.le_refl _) hnc1 hA
          rwa [List.take_of_length_le (by rw [List.length_drop, HOL.out]; exact Nat.le_refl _)] at this
        have hz : L.getD (j * 2) 0 = v := by rw [← HV.out, rtF, Int.toNat_natCast]
        obtain ⟨p, hp⟩ : ∃ p, k - 1 = p := ⟨_, rfl⟩
        have HP := Lib.hid hp
        have hcase : (k = 0 ∨ (0 < k ∧ ¬ rtF L (O.getD p 0) < v)) ∨ (0 < k ∧ rtF L (O.getD p 0) < v) := by
          by_cases h0 : 0 < k
          · by_cases h1 : rtF L (O.getD p 0) < v
            · exact Or.inr ⟨h0, h1⟩
            · exact Or.inl (Or.inr ⟨h0, h1⟩)
          · exact Or.inl (Or.inl (by omega))
        have HCASE := Lib.hid hcase
        clear hcase hp
        have HZ := Lib.hid hz
        clear hz
        by_cases h0 : 0 < k
        case neg =>
          have hd0 : decide ((0 : Int) < (k : Int)) = false := decide_eq_false (by omega)
          have HEQ : Hid (posL (rtF L) v O j = k) := by unfold Hid; rw [HPOS.out, show k = 0 by omega, posL]
          go_wp2_with fail
          first | (refine wp_region_quiet_lit (by kernel_rfl) (by kernel_rfl) ?_; refine WQ.of ?_; (repeat (refine WQ.step (fun K hK => ?_); go_simp; first | (refine hK _ ?_; clear hK K) | (apply Exists.intro; refine ⟨fun _ => ?_, hK _ ?_⟩; (fail); clear hK K))); refine WQ.nil ?_; intro _ hw'; obtain ⟨nq, hw''⟩ := hw'; subst hw'') | go_quiet (fail)
          have g1 : (0 : Int) ≤ (k : Int) := by omega
          have g2 : (k : Int) ≤ (cap1 : Int) := by omega
          have g3 : (k : Int) ≤ (j : Int) := by omega
          have B2 := Lib.hid (Below.via HB2.out HBL.out hzo)
          go_wp2_with fail
          refine (l00Own_row _ k cap1 (O.take k) _ ?_ (by omega)).mono ?_
          · exact PA.out.drewN _
          rintro e w1 ⟨v1, rfl, hown1, hb1⟩
          have B3 : Hid (Below wp.heap.size wp w1) := Below.undrewN hb1
          have HO1 : Hid (w1.ownsRow wp.heap.size 2 1 v1 k ((O.take k).map (Value.int .i64))) := hown1
          have hz1 := B3.out.size
          clear hown1 hb1
          have HA1 : Hid ((w1.alloc (.cells #[.int .i64 j] 2)).ownsRow wp.heap.size 2 1 v1 k ((O.take k).map (Value.int .i64))) := row_below HO1.out (Below.alloc (Below.refl _ _) (Nat.le_refl _) _)
          have B4 := Lib.hid (Below.alloc B3.out hz1 (.cells #[.int .i64 j] 2))
          have hz4 := B4.out.size
          go_wp2_with (at_builtin; refine wpList_append_sl _ rfl _ _ 33 rfl wp.heap.size 2 i0 _ 1 8 Tryd.underlying33 HI.out.1 HI.out.2.1 HI.out.2.2.1 HI.out.2.2.2 rfl (by decide) v1 k ((O.take k).map (Value.int .i64)) rfl HA1.out (w1.heap.size + 1) _ 1 1 [.int .i64 j] rfl (Sl.built rfl (Nat.lt_succ_self _) rfl) ?c1 ?c2 ?c3 ?c4 ?_)
          case c1 => intro u hu; simp at hu; subst hu; rfl
          case c2 => unfold maxLen; omega
          case c3 => omega
          case c4 => exact hz4
          intro v2 w2 hown2 hg2 _
          have B5 := Lib.hid (below_app B4.out HA1.out hg2 (Nat.le_refl _) hz4)
          have hz5 := B5.out.size
          have HO2 := Lib.hid hown2
          have P2 := Lib.hid (PB.out.later B5.out)
          clear hown2 hg2
          have HCK : (cap1 = k) = True ∨ (cap1 = k) = False := by
            by_cases h : cap1 = k
            · exact Or.inl (eq_true h)
            · exact Or.inr (eq_false h)
          rcases HCK with hck | hck
          all_goals
            go_wp2_with (at_builtin; refine wpList_append_sl _ rfl _ _ 33 rfl wp.heap.size 2 i0 _ 1 8 Tryd.underlying33 HI.out.1 HI.out.2.1 HI.out.2.2.1 HI.out.2.2.2 rfl (by decide) v2 (k + 1) _ rfl HO2.out w2.heap.size _ (j - k) (cap1 - k) ((O.drop k).map (Value.int .i64)) rfl (P2.out _ (fun h => by first | exact absurd (of_eq_true hck) h | (simp only [Option.map_some, Go.WideShapes.add_plain]; done) | (simp [Addr.add, h]; done))) ?c1 ?c2 ?c3 ?c4 ?_)
            case c1 => exact one_cells _
            case c2 => unfold maxLen; omega
            case c3 => omega
            case c4 => exact hz5
            intro v3 w3 hown3 hg3 _
            have B6 := Lib.hid (Below.via (below_app B5.out HO2.out hg3 (Nat.le_refl _) hz5) B2.out B2.out.size)
            have hown4 := own_baseM hown3 (Nat.le_trans hzo hzp)
            have HO3 := Lib.hid hown4
            clear hown3 hown4 hg3
            go_wp2_with fail
            go_roundw
            case rel =>
              have h := HO3.out
              rw [show k + 1 + (j - k) = j + 1 by omega] at h
              refine ⟨j + 1, by omega, by go_num, ?_, B6.out⟩
              rw [HNX.out, HEQ.out, List.map_append, List.map_append, List.append_assoc]
              simpa using h
            case measure => first | (simp [intOf]; done) | (simp [intOf]; omega)
        case pos =>
          have hd0 : decide ((0 : Int) < (k : Int)) = true := decide_eq_true (by omega)
          have hw : IntKind.i64.wrap ((k : Int) - 1) = (p : Int) := by rw [IntWalk.i64_in _ (by omega)]; have := HP.out; omega
          have hpj : p < j := by have := HP.out; omega
          obtain ⟨x0, x1⟩ := HOM.out p hpj
          obtain ⟨b1, off1, x, rfl, hb1, hx, hc1⟩ := SP.out.int hpj
          rw [hx.out] at x0 x1
          obtain ⟨X, rfl⟩ := Int.eq_ofNat_of_zero_le x0
          have hXn : X < n := by omega
          obtain ⟨b2, off2, y, y1, rfl, hb2, hy, -, hc2, -⟩ := HSP.out.duo hXn
          obtain ⟨b3, off3, z, z1, e3, _, hz, -, hc3, -⟩ := HSP.out.duo hlt
          injection e3 with e3
          injection e3 with e4 e5
          subst e4 e5
          have hzv : z = v := by rw [← hz.out]; exact HZ.out
          subst hzv
          have HFX : Hid (rtF L (O.getD p 0) = y) := by unfold Hid; rw [hx.out, rtF, Int.toNat_natCast]; exact hy.out
          by_cases hyz : y < z
          case pos =>
            have hd1 : decide (y < z) = true := decide_eq_true hyz
            have HEQ : Hid (posL (rtF L) z O k = posL (rtF L) z O p) := by
              unfold Hid
              have h : posL (rtF L) z O (p + 1) = if rtF L (O.getD p 0) < z then posL (rtF L) z O p else p + 1 := rfl
              rw [if_pos (by rw [HFX.out]; exact hyz)] at h
              rw [← h, show p + 1 = k by have := HP.out; omega]
            clear hyz x0 x1
            go_wp2_with fail
            first | (refine wp_region_quiet_lit (by kernel_rfl) (by kernel_rfl) ?_; refine WQ.of ?_; (repeat (refine WQ.step (fun K hK => ?_); go_simp; first | (refine hK _ ?_; clear hK K) | (apply Exists.intro; refine ⟨fun _ => ?_, hK _ ?_⟩; (fail); clear hK K))); refine WQ.nil ?_; intro _ hw'; obtain ⟨nq, hw''⟩ := hw'; subst hw'') | go_quiet (fail)
            go_wp2_with fail
            have hbl2 := HB2.out
            go_roundw
            case rel => exact ⟨p, by omega, by first | rfl | (rw [hw]; rfl) | go_num, by rw [HPOS.out, HEQ.out], by (repeat' (first | (with_reducible exact Below.refl _ _) | (with_reducible assumption) | (with_reducible refine Below.alloc ?_ ?_ _) | (with_reducible refine Below.drew ?_) | (with_reducible refine belowDrewN ?_ _) | (with_reducible refine Below.setCell ?_ ?_ _) | (with_reducible refine Below.via (by with_reducible assumption) ?_ ?_) | (with_reducible refine Below.viaD (by with_reducible assumption) ?_ ?_) | (with_reducible exact Below.size (by with_reducible assumption)) | go_size | (with_reducible refine Nat.le_trans ?_ (Below.size (by with_reducible assumption))) | (with_reducible refine Nat.le_trans ?_ (sizeAlloc _ _)) | (with_reducible refine Nat.le_trans ?_ (sizeSet _ _ _)) | (with_reducible refine Nat.le_trans ?_ (sizeDrew _))))⟩
            case measure => have := HP.out; first | (simp [intOf]; done) | (simp [intOf]; omega)
          case neg =>
            have hd1 : decide (y < z) = false := decide_eq_false hyz
            have HEQ : Hid (posL (rtF L) z O j = k) := by
              unfold Hid
              have h : posL (rtF L) z O (p + 1) = if rtF L (O.getD p 0) < z then posL (rtF L) z O p else p + 1 := rfl
              rw [if_neg (by rw [HFX.out]; exact hyz)] at h
              rw [HPOS.out, show k = p + 1 by have := HP.out; omega, h]
            clear hyz x0 x1
            go_wp2_with fail
            first | (refine wp_region_quiet_lit (by kernel_rfl) (by kernel_rfl) ?_; refine WQ.of ?_; (repeat (refine WQ.step (fun K hK => ?_); go_simp; first | (refine hK _ ?_; clear hK K) | (apply Exists.intro; refine ⟨fun _ => ?_, hK _ ?_⟩; (fail); clear hK K))); refine WQ.nil ?_; intro _ hw'; obtain ⟨nq, hw''⟩ := hw'; subst hw'') | go_quiet (fail)
            have g1 : (0 : Int) ≤ (k : Int) := by omega
            have g2 : (k : Int) ≤ (cap1 : Int) := by omega
            have g3 : (k : Int) ≤ (j : Int) := by omega
            have B2 := Lib.hid (Below.via HB2.out HBL.out hzo)
            go_wp2_with fail
            refine (l00Own_row _ k cap1 (O.take k) _ ?_ (by omega)).mono ?_
            · exact PA.out.drewN _
            rintro e w1 ⟨v1, rfl, hown1, hb1⟩
            have B3 : Hid (Below wp.heap.size wp w1) := Below.undrewN hb1
            have HO1 : Hid (w1.ownsRow wp.heap.size 2 1 v1 k ((O.take k).map (Value.int .i64))) := hown1
            have hz1 := B3.out.size
            clear hown1 hb1
            have HA1 : Hid ((w1.alloc (.cells #[.int .i64 j] 2)).ownsRow wp.heap.size 2 1 v1 k ((O.take k).map (Value.int .i64))) := row_below HO1.out (Below.alloc (Below.refl _ _) (Nat.le_refl _) _)
            have B4 := Lib.hid (Below.alloc B3.out hz1 (.cells #[.int .i64 j] 2))
            have hz4 := B4.out.size
            go_wp2_with (at_builtin; refine wpList_append_sl _ rfl _ _ 33 rfl wp.heap.size 2 i0 _ 1 8 Tryd.underlying33 HI.out.1 HI.out.2.1 HI.out.2.2.1 HI.out.2.2.2 rfl (by decide) v1 k ((O.take k).map (Value.int .i64)) rfl HA1.out (w1.heap.size + 1) _ 1 1 [.int .i64 j] rfl (Sl.built rfl (Nat.lt_succ_self _) rfl) ?c1 ?c2 ?c3 ?c4 ?_)
            case c1 => intro u hu; simp at hu; subst hu; rfl
            case c2 => unfold maxLen; omega
            case c3 => omega
            case c4 => exact hz4
            intro v2 w2 hown2 hg2 _
            have B5 := Lib.hid (below_app B4.out HA1.out hg2 (Nat.le_refl _) hz4)
            have hz5 := B5.out.size
            have HO2 := Lib.hid hown2
            have P2 := Lib.hid (PB.out.later B5.out)
            clear hown2 hg2
            have HCK : (cap1 = k) = True ∨ (cap1 = k) = False := by
              by_cases h : cap1 = k
              · exact Or.inl (eq_true h)
              · exact Or.inr (eq_false h)
            rcases HCK with hck | hck
            all_goals
              go_wp2_with (at_builtin; refine wpList_append_sl _ rfl _ _ 33 rfl wp.heap.size 2 i0 _ 1 8 Tryd.underlying33 HI.out.1 HI.out.2.1 HI.out.2.2.1 HI.out.2.2.2 rfl (by decide) v2 (k + 1) _ rfl HO2.out w2.heap.size _ (j - k) (cap1 - k) ((O.drop k).map (Value.int .i64)) rfl (P2.out _ (fun h => by first | exact absurd (of_eq_true hck) h | (simp only [Option.map_some, Go.WideShapes.add_plain]; done) | (simp [Addr.add, h]; done))) ?c1 ?c2 ?c3 ?c4 ?_)
              case c1 => exact one_cells _
              case c2 => unfold maxLen; omega
              case c3 => omega
              case c4 => exact hz5
              intro v3 w3 hown3 hg3 _
              have B6 := Lib.hid (Below.via (below_app B5.out HO2.out hg3 (Nat.le_refl _) hz5) B2.out B2.out.size)
              have hown4 := own_baseM hown3 (Nat.le_trans hzo hzp)
              have HO3 := Lib.hid hown4
              clear hown3 hown4 hg3
              go_wp2_with fail
              go_roundw
              case rel =>
                have h := HO3.out
                rw [show k + 1 + (j - k) = j + 1 by omega] at h
                refine ⟨j + 1, by omega, by go_num, ?_, B6.out⟩
                rw [HNX.out, HEQ.out, List.map_append, List.map_append, List.append_assoc]
                simpa using h
              case measure => first | (simp [intOf]; done) | (simp [intOf]; omega)
    · obtain rfl : j = n := by omega
      go_wp2
      go_ret2
      exact ⟨_, _, _, rfl, Nat.le_trans hz0 hg1, HOV.out, Below.via hbl B0.out B0.out.size⟩
theorem sRatingOrder_any (A : Option Addr) (n c : Nat) (L : List Int) (w : World) (hs : Sl w w.heap.size 2 A n (L.map (Value.int .i64))) (hn : n ≤ 9223372036854775807) (l : List Int) (q : Nat) (code : Int) (hr : roR L n = (l, q, code)) :
    Calls Tryd.prog 12 #[.slice A n c] w (RoPost Tryd.prog l q code w) := by
  obtain ⟨x, hx⟩ : ∃ x, rpE L [] n 0 = x := ⟨_, rfl⟩
  by_cases h0 : x = 0
  · subst h0
    have h := hr.symm.trans (roR_0 hx)
    injection h with h1 h2
    injection h2 with h2 h3
    subst h1 h2 h3
    exact sRatingOrder_0 A _ c L w hs (roE_n hx).1 hx
  · have HE := Lib.hid hx
    have HR := Lib.hid hr
    have HN := Lib.hid (roR_ne hx h0)
    have hxb : (x != 0) = true := by rw [bne_iff_ne]; exact h0
    clear hx hr h0
    go_enter Tryd.func12, Tryd.ntmps12
    go_wp2_with (go_at_call 31; (with_reducible refine Calls.mono (l25Code_any A none n c 0 0 L [] _ hs (Sl.nil _ _ _ _) hn (by omega)) ?_); rw [HE.out]; rintro e w0 ⟨rfl, hb0⟩)
    go_ret2
    exact ro_fin HN.out HR.out (by (repeat' (first | (with_reducible exact Below.refl _ _) | (with_reducible assumption) | (with_reducible refine Below.alloc ?_ ?_ _) | (with_reducible refine Below.drew ?_) | (with_reducible refine belowDrewN ?_ _) | (with_reducible refine Below.setCell ?_ ?_ _) | (with_reducible refine Below.via (by with_reducible assumption) ?_ ?_) | (with_reducible refine Below.viaD (by with_reducible assumption) ?_ ?_) | (with_reducible exact Below.size (by with_reducible assumption)) | go_size | (with_reducible refine Nat.le_trans ?_ (Below.size (by with_reducible assumption))) | (with_reducible refine Nat.le_trans ?_ (sizeAlloc _ _)) | (with_reducible refine Nat.le_trans ?_ (sizeSet _ _ _)) | (with_reducible refine Nat.le_trans ?_ (sizeDrew _)))))
end Go.Proofs.YteeplmnjipddaaaDoor
