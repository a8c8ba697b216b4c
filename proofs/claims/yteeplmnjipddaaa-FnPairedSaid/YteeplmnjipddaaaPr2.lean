/- Pairings by points: pairs in their order, by both functions. Conditions: at most 12 players. -/
import Derived.Test.YteeplmnjipddaaaPr1
import Derived.Deep.RegionHeld3
namespace Go.Proofs.Yteeplmnjipddaaa
set_option linter.unusedSimpArgs false
set_option linter.unusedVariables false
open Go.RowKit Go.WideShapes

/-- What pairing returns: a list of meetings, their number, and whether there is one. -/
def prD (d : Nat) : Option (List Int) → List Int × Nat × Bool
  | some l => (l, d, true)
  | none => ([], 0, false)
theorem prD_some {d : Nat} {r : List Int} {o : Option (List Int)} (h : o = some r) : prD d o = (r, d, true) := by rw [h]; rfl
theorem prD_none {d : Nat} {o : Option (List Int)} (h : o = none) : prD d o = ([], 0, false) := by rw [h]; rfl
def PairPost (P : Program) (l : List Int) (q : Nat) (ok : Bool) (w : World) (e : Ending) (w' : World) : Prop :=
  ∃ v, e = .returned (.tuple #[v, .bool ok]) ∧ w'.ownsRow w.heap.size 52 2 v q (l.map (Value.int .i64)) ∧ Below w.heap.size w w'
theorem info_MeetingP : (Try.prog.info? 52).map (fun i => (i.zero, i.size, i.bytes)) = some (some (.agg #[Value.int .i64 0, .int .i64 0]), 2, 16) := by kernel_rfl
theorem duo_alloc {W : World} {b i j : Nat} {x y : Value} (h : W.cell? ⟨b, i, none⟩ = some x ∧ W.cell? ⟨b, j, none⟩ = some y) (o : Obj) : (W.alloc o).cell? ⟨b, i, none⟩ = some x ∧ (W.alloc o).cell? ⟨b, j, none⟩ = some y := by
  have h1 := cell_lt h.1
  have e : ∀ k, (W.alloc o).cell? ⟨b, k, none⟩ = W.cell? ⟨b, k, none⟩ := fun k => (Below.alloc (Below.refl W.heap.size W) (Nat.le_refl _) o).cell (p := ⟨b, k, none⟩) h1
  exact ⟨(e i).trans h.1, (e j).trans h.2⟩
theorem duo_grown {W W' : World} {b i j : Nat} {x y : Value} {row : Option Nat} (h : W.cell? ⟨b, i, none⟩ = some x ∧ W.cell? ⟨b, j, none⟩ = some y) (hg : W.grownBy W' row) (hne : some b ≠ row) : W'.cell? ⟨b, i, none⟩ = some x ∧ W'.cell? ⟨b, j, none⟩ = some y := ⟨hg.cell h.1 hne, hg.cell h.2 hne⟩
theorem duo_drew {W : World} {b i j : Nat} {x y : Value} (h : W.cell? ⟨b, i, none⟩ = some x ∧ W.cell? ⟨b, j, none⟩ = some y) : W.drew.cell? ⟨b, i, none⟩ = some x ∧ W.drew.cell? ⟨b, j, none⟩ = some y := h
set_option maxRecDepth 10000 in
set_option maxHeartbeats 4000000 in
theorem pair_any (zs : List Int) (c g : Nat) : ∀ d, d ≤ 6 → ∀ (A : Option Addr) (n cp : Nat) (L : List Int) (w : World) (l : List Int) (q : Nat) (ok : Bool), n = 2 * d → n ≤ cp → cp ≤ maxLen → Sl w w.heap.size 1 A n (L.map (Value.int .i64)) → (∀ x ∈ L, 0 ≤ x ∧ x < 12) → Blk w g 99 (metC zs c) → prD d (pairN (fun a b => metB zs a b c) d L) = (l, q, ok) →
    Calls Try.prog 44 #[.pointer (some ⟨g, 0, none⟩), .slice A n cp] w (PairPost Try.prog l q ok w)
  | 0, _, A, n, cp, L, w, l, q, ok, hn, h1, h2, h3, h4, h5, hr => by
    obtain rfl : n = 0 := by omega
    have hr' : prD 0 (some []) = (l, q, ok) := hr
    injection hr' with e1 e2
    injection e2 with e2 e3
    subst e1 e2 e3
    clear hn h1 h2 h3 h4 h5 hr
    go_enter Try.func44, Try.ntmps44
    go_wp2
    go_ret2
    exact ⟨_, rfl, World.ownsRow_made _ _ 0 (Nat.le_refl _) (Nat.zero_le _) rfl, by (repeat' (first | (with_reducible exact Below.refl _ _) | (with_reducible assumption) | (with_reducible refine Below.alloc ?_ ?_ _) | (with_reducible refine Below.drew ?_) | (with_reducible refine belowDrewN ?_ _) | (with_reducible refine Below.setCell ?_ ?_ _) | (with_reducible refine Below.via (by with_reducible assumption) ?_ ?_) | (with_reducible refine Below.viaD (by with_reducible assumption) ?_ ?_) | (with_reducible exact Below.size (by with_reducible assumption)) | go_size | (with_reducible refine Nat.le_trans ?_ (Below.size (by with_reducible assumption))) | (with_reducible refine Nat.le_trans ?_ (sizeAlloc _ _)) | (with_reducible refine Nat.le_trans ?_ (sizeSet _ _ _)) | (with_reducible refine Nat.le_trans ?_ (sizeDrew _))))⟩
  | d + 1, hd, A, n, cp, L, w, l, q, ok, hn, hnc, hcm, hs, hl, hblk, hr => by
    have HL := Lib.hid hl
    have HS := Lib.hid hs
    have HK := Lib.hid hblk
    have HN := Lib.hid hn
    have IH := Lib.hid (pair_any zs c g d (by omega))
    have hlen := hs.ints
    have HLEN := Lib.hid hlen
    have HR := Lib.hid hr
    have hn0 : ((n : Int) == 0) = false := by rw [beq_eq_false_iff_ne]; omega
    have hn12 : n ≤ 12 := by omega
    have hn2 : 2 ≤ n := by omega
    obtain ⟨F, hF⟩ : ∃ F, prF (fun a b => metB zs a b c) d L = F := ⟨_, rfl⟩
    have HF1 : Hid (∀ k, 1 ≤ k → (metB zs (L.getD 0 0) (L.getD k 0) c = true → F (k - 1) = none) ∧ (metB zs (L.getD 0 0) (L.getD k 0) c = false → F (k - 1) = (pairN (fun a b => metB zs a b c) d (witho L k)).map (fun r => L.getD 0 0 :: L.getD k 0 :: r))) := fun k hk => by
      have e : k - 1 + 1 = k := by omega
      refine ⟨fun h => ?_, fun h => ?_⟩
      · rw [← hF]; exact prF_met (by rw [e]; exact h)
      · rw [← hF, prF_no (by rw [e]; exact h), e]
    have HNO : Hid ((∀ i, i < n - 1 → F i = none) → l = [] ∧ q = 0 ∧ ok = false) := fun h => by
      have e : pairN (fun a b => metB zs a b c) (d + 1) L = none := by rw [pairN_succ, hF]; exact firstS_none (fun i hi => h i (by omega))
      have := HR.out
      rw [prD_none e] at this
      injection this with e1 e2
      injection e2 with e2 e3
      exact ⟨e1.symm, e2.symm, e3.symm⟩
    have HYES : Hid (∀ k r, k < n - 1 → (∀ i, i < k → F i = none) → F k = some r → l = r ∧ q = d + 1 ∧ ok = true) := fun k r hk h1 h2 => by
      have e : pairN (fun a b => metB zs a b c) (d + 1) L = some r := by rw [pairN_succ, hF]; exact firstS_hit _ (by omega) h1 h2
      have := HR.out
      rw [prD_some e] at this
      injection this with e1 e2
      injection e2 with e2 e3
      exact ⟨e1.symm, e2.symm, e3.symm⟩
    obtain ⟨i0, ti, tz0, tz1, tz2⟩ := info_parts info_MeetingP
    have HI := Lib.hid (And.intro ti (And.intro tz0 (And.intro tz1 tz2)))
    clear hl hs hblk hn hlen hF hr ti tz0 tz1 tz2
    go_enter Try.func44, Try.ntmps44
    go_wp2
    go_loopw [6] (fun i wr => ∃ k : Nat, 1 ≤ k ∧ k ≤ n ∧ i = .int .i64 k ∧ Hid (∀ i, i < k - 1 → F i = none) ∧ Below w.heap.size w wr) (fun i _ => n - (intOf i).toNat)
    case atStart => exact ⟨1, Nat.le_refl _, by omega, rfl, fun i hi => absurd hi (by omega), Below.refl _ _⟩
    case round =>
      obtain ⟨k, hk1, hk, rfl, hpre, hbl⟩ := hrel
      rename World => wo
      have HBL := Lib.hid hbl
      have hzo := hbl.size
      by_cases hlt : k < n
      · have HSo := Lib.hid (HS.out.later hbl)
        obtain ⟨b, off, x, rfl, hb, hx, hc0⟩ := HSo.out.int (show 0 < n by omega)
        obtain ⟨b', off', y, e2, _, hy, hc1⟩ := HSo.out.int hlt
        injection e2 with e2
        injection e2 with e3 e4
        subst e3 e4
        rw [Nat.add_zero] at hc0
        have m0 := HL.out x (by rw [← hx.out]; exact getD_mem 0 (by rw [HLEN.out]; omega))
        have m1 := HL.out y (by rw [← hy.out]; exact getD_mem 0 (by rw [HLEN.out]; omega))
        obtain ⟨X, rfl⟩ := Int.eq_ofNat_of_zero_le m0.1
        obtain ⟨Y, rfl⟩ := Int.eq_ofNat_of_zero_le m1.1
        have hX : X < 12 := by omega
        have hY : Y < 12 := by omega
        have HKo := Lib.hid (HK.out.later hbl)
        have hv := (HKo.out.cell (X * 12 + Y)).trans (metC_at hX hY)
        have hf1 := HF1.out k hk1
        rw [hx.out, hy.out] at hf1
        revert hv hf1
        generalize metB zs X Y c = t
        intro hv hf1
        cases t
        case true =>
          have HFN := Lib.hid (hf1.1 rfl)
          clear hf1 hbl m0 m1
          go_wp2
          go_region
          go_wp2
          have hbl := HBL.out
          go_roundw
          case rel =>
            refine ⟨k + 1, by omega, by omega, by go_num, fun i hi => ?_, by (repeat' (first | (with_reducible exact Below.refl _ _) | (with_reducible assumption) | (with_reducible refine Below.alloc ?_ ?_ _) | (with_reducible refine Below.drew ?_) | (with_reducible refine belowDrewN ?_ _) | (with_reducible refine Below.setCell ?_ ?_ _) | (with_reducible refine Below.via (by with_reducible assumption) ?_ ?_) | (with_reducible refine Below.viaD (by with_reducible assumption) ?_ ?_) | (with_reducible exact Below.size (by with_reducible assumption)) | go_size | (with_reducible refine Nat.le_trans ?_ (Below.size (by with_reducible assumption))) | (with_reducible refine Nat.le_trans ?_ (sizeAlloc _ _)) | (with_reducible refine Nat.le_trans ?_ (sizeSet _ _ _)) | (with_reducible refine Nat.le_trans ?_ (sizeDrew _))))⟩
            rcases Nat.lt_or_ge i (k - 1) with h | h
            · exact hpre.out i h
            · obtain rfl : i = k - 1 := by omega
              exact HFN.out
          case measure => first | (simp [intOf]; done) | (simp [intOf]; omega)
        case false =>
          have HFF := Lib.hid (hf1.2 rfl)
          clear hf1 hbl m0 m1
          go_wp2
          go_region
          clear hv hc0 hc1
          go_wp2_with fail
          refine (without_any _ n cp k L _ (by exact HSo.out.drew) hn12 hnc hcm hk1 hlt).mono ?_
          rintro e w1 ⟨v, rfl, hown, hb1⟩
          obtain ⟨A1, g1, cap1, rfl, hg1, hnc1, hcm1, ho1⟩ := own_of_row hown
          have SL1 := Lib.hid ho1.sl
          have K1 := Lib.hid ((HKo.out.later (belowDrewN (Below.refl _ _) 1)).later hb1)
          have B1 := Lib.hid (Below.viaD hb1 HBL.out HBL.out.size)
          have HS1 := Lib.hid ((HSo.out.later (belowDrewN (Below.refl _ _) 1)).later hb1)
          have hz1 := B1.out.size
          clear hown hb1 ho1
          obtain ⟨l2, q2, ok2, hr2⟩ : ∃ l2 q2 ok2, prD d (pairN (fun a b => metB zs a b c) d (witho L k)) = (l2, q2, ok2) := ⟨_, _, _, rfl⟩
          have HR2 := Lib.hid hr2
          clear hr2
          go_wp2_with fail
          refine (IH.out A1 (n - 2) cap1 (witho L k) _ l2 q2 ok2 (by have := HN.out; omega) hnc1 hcm1 SL1.out (fun x hx => HL.out x (witho_mem hx)) K1.out HR2.out).mono ?_
          rintro e w2 ⟨v2, rfl, hown2, hb2⟩
          have B2 := Lib.hid (Below.via hb2 B1.out hz1)
          have HS2 := Lib.hid (HS1.out.later hb2)
          have HO2 := Lib.hid hown2
          have hz2 := B2.out.size
          clear hown2 hb2
          cases ho : pairN (fun a b => metB zs a b c) d (witho L k)
          case none =>
            have h := HR2.out
            rw [prD_none ho] at h
            injection h with h1 h2
            injection h2 with h2 h3
            subst h1 h2 h3
            have HFN : Hid (F (k - 1) = none) := by unfold Hid; rw [HFF.out, ho]; rfl
            clear ho
            go_wp2_with fail
            have hbl := B2.out
            go_roundw
            case rel =>
              refine ⟨k + 1, by omega, by omega, by go_num, fun i hi => ?_, by (repeat' (first | (with_reducible exact Below.refl _ _) | (with_reducible assumption) | (with_reducible refine Below.alloc ?_ ?_ _) | (with_reducible refine Below.drew ?_) | (with_reducible refine belowDrewN ?_ _) | (with_reducible refine Below.setCell ?_ ?_ _) | (with_reducible refine Below.via (by with_reducible assumption) ?_ ?_) | (with_reducible refine Below.viaD (by with_reducible assumption) ?_ ?_) | (with_reducible exact Below.size (by with_reducible assumption)) | go_size | (with_reducible refine Nat.le_trans ?_ (Below.size (by with_reducible assumption))) | (with_reducible refine Nat.le_trans ?_ (sizeAlloc _ _)) | (with_reducible refine Nat.le_trans ?_ (sizeSet _ _ _)) | (with_reducible refine Nat.le_trans ?_ (sizeDrew _))))⟩
              rcases Nat.lt_or_ge i (k - 1) with h | h
              · exact hpre.out i h
              · obtain rfl : i = k - 1 := by omega
                exact HFN.out
            case measure => first | (simp [intOf]; done) | (simp [intOf]; omega)
          case some r =>
            have h := HR2.out
            rw [prD_some ho] at h
            injection h with h1 h2
            injection h2 with h2 h3
            subst h1 h2 h3
            have HFS : Hid (F (k - 1) = some ((X : Int) :: (Y : Int) :: r)) := by unfold Hid; rw [HFF.out, ho]; rfl
            obtain ⟨y1, y2, y3⟩ := HYES.out (k - 1) _ (by omega) hpre.out HFS.out
            have Y1 := Lib.hid y1
            subst y2 y3
            obtain ⟨A2, g2, cap2, rfl, hg2, hnc2, hcm2, ho2⟩ := own_of_row HO2.out
            have SL2 := Lib.hid ho2.sl
            clear ho y1 ho2
            obtain ⟨b3, off3, x3, e5, _, hx3, hd0⟩ := HS2.out.int (show 0 < n by omega)
            obtain ⟨b4, off4, y3, e6, hb4, hy3, hd1⟩ := HS2.out.int hlt
            injection e5 with e5
            injection e5 with e5 e7
            subst e5 e7
            injection e6 with e6
            injection e6 with e6 e8
            subst e6 e8
            rw [Nat.add_zero] at hd0
            obtain rfl := hx.out.symm.trans hx3.out
            obtain rfl := hy.out.symm.trans hy3.out
            have hS0 : w2.cell? ⟨b, off, none⟩ = some (.int .i64 (X : Int)) ∧ w2.cell? ⟨b, off + k, none⟩ = some (.int .i64 (Y : Int)) := ⟨hd0, hd1⟩
            have HRA : Hid ((w2.alloc (.cells #[.int .i64 (X : Int), .int .i64 (Y : Int)] 52)).drew.ownsRow w2.heap.size 52 2 (.slice (some ⟨w2.heap.size, 0, none⟩) 1 1) 1 [.int .i64 (X : Int), .int .i64 (Y : Int)]) :=
              row_below (row_of_blkN (Blk.new w2 52 #[.int .i64 (X : Int), .int .i64 (Y : Int)]) (Nat.le_refl _) rfl (by unfold maxLen; omega)) (belowDrewN (Below.refl _ _) 1)
            have HSA : Hid (Sl (w2.alloc (.cells #[.int .i64 (X : Int), .int .i64 (Y : Int)] 52)).drew (w2.alloc (.cells #[.int .i64 (X : Int), .int .i64 (Y : Int)] 52)).drew.heap.size 2 A2 d (r.map (Value.int .i64))) := (SL2.out.later (Below.alloc (Below.refl _ _) (Nat.le_refl _) _)).drew
            have hzz : w2.heap.size ≤ (w2.alloc (.cells #[.int .i64 (X : Int), .int .i64 (Y : Int)] 52)).drew.heap.size := sizeAlloc w2 _
            have HBO : Hid (some b ≠ (Value.slice (some ⟨w2.heap.size, 0, none⟩) 1 1).ownBlock) := by
              intro e
              have h : b = w2.heap.size := by injection e
              omega
            have hn0p : 0 < n := by omega
            have hn0i : (0 : Int) < (n : Int) := by omega
            clear hd0 hd1
            go_wp2_with fail
            go_region_held3 (fun W => W.cell? ⟨b, off, none⟩ = some (.int .i64 (X : Int)) ∧ W.cell? ⟨b, off + k, none⟩ = some (.int .i64 (Y : Int))) (first | (with_reducible exact duo_drew hS0) | (with_reducible assumption) | (exact duo_alloc (by with_reducible assumption) _) | (exact duo_grown (by with_reducible assumption) (by with_reducible assumption) HBO.out)) (first
              | (refine step_append_sl _ rfl _ _ 36 rfl w2.heap.size 52 i0 _ 2 16 Try.underlying36 HI.out.1 HI.out.2.1 HI.out.2.2.1 HI.out.2.2.2 rfl (by decide) (.slice (some ⟨w2.heap.size, 0, none⟩) 1 1) 1 [.int .i64 (X : Int), .int .i64 (Y : Int)] rfl HRA.out _ A2 d cap2 (r.map (Value.int .i64)) rfl HSA.out (one_cells r) (by unfold maxLen; omega) (by omega) hzz ?_; intro v' w7 hown7 hg7 _))
            all_goals
              have B7 := below_app (belowDrewN (Below.alloc (Below.refl w2.heap.size w2) (Nat.le_refl _) (.cells #[.int .i64 (X : Int), .int .i64 (Y : Int)] 52)) 1) HRA.out hg7 (Nat.le_refl _) hzz
              have B8 := Lib.hid (Below.via B7 B2.out hz2)
              have HO7 := Lib.hid (own_baseM hown7 hz2)
              clear hown7 hg7 B7 hS0
              go_wp2_with fail
              go_ret2
              refine ⟨v', rfl, ?_, B8.out⟩
              rw [Y1.out, show d + 1 = 1 + d by omega]
              exact HO7.out
      · obtain rfl : k = n := by omega
        obtain ⟨y1, y2, y3⟩ := HNO.out hpre.out
        subst y1 y2 y3
        go_wp2
        go_ret2
        exact ⟨_, rfl, ⟨rfl, .inl ⟨rfl, rfl⟩⟩, hbl⟩
set_option maxRecDepth 10000 in
set_option maxHeartbeats 4000000 in
theorem l24Pair_any (zs : List Int) (c cp2 : Nat) (A2 : Option Addr) (hc : c ≤ 150) : ∀ d, d ≤ 6 → ∀ (A : Option Addr) (n cp : Nat) (L : List Int) (w : World) (l : List Int) (q : Nat) (ok : Bool), n = 2 * d → n ≤ cp → cp ≤ maxLen → Sl w w.heap.size 1 A n (L.map (Value.int .i64)) → Sl w w.heap.size 2 A2 c (zs.map (Value.int .i64)) → prD d (pairN (fun a b => metB zs a b c) d L) = (l, q, ok) →
    Calls Try.prog 61 #[.slice A n cp, .slice A2 c cp2] w (PairPost Try.prog l q ok w)
  | 0, _, A, n, cp, L, w, l, q, ok, hn, h1, h2, h3, h5, hr => by
    obtain rfl : n = 0 := by omega
    have hr' : prD 0 (some []) = (l, q, ok) := hr
    injection hr' with e1 e2
    injection e2 with e2 e3
    subst e1 e2 e3
    clear hn h1 h2 h3 h5 hr
    go_enter Try.func61, Try.ntmps61
    go_wp2
    go_ret2
    exact ⟨_, rfl, World.ownsRow_made _ _ 0 (Nat.le_refl _) (Nat.zero_le _) rfl, by (repeat' (first | (with_reducible exact Below.refl _ _) | (with_reducible assumption) | (with_reducible refine Below.alloc ?_ ?_ _) | (with_reducible refine Below.drew ?_) | (with_reducible refine belowDrewN ?_ _) | (with_reducible refine Below.setCell ?_ ?_ _) | (with_reducible refine Below.via (by with_reducible assumption) ?_ ?_) | (with_reducible refine Below.viaD (by with_reducible assumption) ?_ ?_) | (with_reducible exact Below.size (by with_reducible assumption)) | go_size | (with_reducible refine Nat.le_trans ?_ (Below.size (by with_reducible assumption))) | (with_reducible refine Nat.le_trans ?_ (sizeAlloc _ _)) | (with_reducible refine Nat.le_trans ?_ (sizeSet _ _ _)) | (with_reducible refine Nat.le_trans ?_ (sizeDrew _))))⟩
  | d + 1, hd, A, n, cp, L, w, l, q, ok, hn, hnc, hcm, hs, hblk, hr => by
    have HS := Lib.hid hs
    have HK := Lib.hid hblk
    have HN := Lib.hid hn
    have IH := Lib.hid (l24Pair_any zs c cp2 A2 hc d (by omega))
    have hlen := hs.ints
    have HLEN := Lib.hid hlen
    have HR := Lib.hid hr
    have hn0 : ((n : Int) == 0) = false := by rw [beq_eq_false_iff_ne]; omega
    have hn12 : n ≤ 12 := by omega
    have hn2 : 2 ≤ n := by omega
    obtain ⟨F, hF⟩ : ∃ F, prF (fun a b => metB zs a b c) d L = F := ⟨_, rfl⟩
    have HF1 : Hid (∀ k, 1 ≤ k → (metB zs (L.getD 0 0) (L.getD k 0) c = true → F (k - 1) = none) ∧ (metB zs (L.getD 0 0) (L.getD k 0) c = false → F (k - 1) = (pairN (fun a b => metB zs a b c) d (witho L k)).map (fun r => L.getD 0 0 :: L.getD k 0 :: r))) := fun k hk => by
      have e : k - 1 + 1 = k := by omega
      refine ⟨fun h => ?_, fun h => ?_⟩
      · rw [← hF]; exact prF_met (by rw [e]; exact h)
      · rw [← hF, prF_no (by rw [e]; exact h), e]
    have HNO : Hid ((∀ i, i < n - 1 → F i = none) → l = [] ∧ q = 0 ∧ ok = false) := fun h => by
      have e : pairN (fun a b => metB zs a b c) (d + 1) L = none := by rw [pairN_succ, hF]; exact firstS_none (fun i hi => h i (by omega))
      have := HR.out
      rw [prD_none e] at this
      injection this with e1 e2
      injection e2 with e2 e3
      exact ⟨e1.symm, e2.symm, e3.symm⟩
    have HYES : Hid (∀ k r, k < n - 1 → (∀ i, i < k → F i = none) → F k = some r → l = r ∧ q = d + 1 ∧ ok = true) := fun k r hk h1 h2 => by
      have e : pairN (fun a b => metB zs a b c) (d + 1) L = some r := by rw [pairN_succ, hF]; exact firstS_hit _ (by omega) h1 h2
      have := HR.out
      rw [prD_some e] at this
      injection this with e1 e2
      injection e2 with e2 e3
      exact ⟨e1.symm, e2.symm, e3.symm⟩
    obtain ⟨i0, ti, tz0, tz1, tz2⟩ := info_parts info_MeetingP
    have HI := Lib.hid (And.intro ti (And.intro tz0 (And.intro tz1 tz2)))
    clear hs hblk hn hlen hF hr ti tz0 tz1 tz2
    go_enter Try.func61, Try.ntmps61
    go_wp2
    go_loopw [6] (fun i wr => ∃ k : Nat, 1 ≤ k ∧ k ≤ n ∧ i = .int .i64 k ∧ Hid (∀ i, i < k - 1 → F i = none) ∧ Below w.heap.size w wr) (fun i _ => n - (intOf i).toNat)
    case atStart => exact ⟨1, Nat.le_refl _, by omega, rfl, fun i hi => absurd hi (by omega), Below.refl _ _⟩
    case round =>
      obtain ⟨k, hk1, hk, rfl, hpre, hbl⟩ := hrel
      rename World => wo
      have HBL := Lib.hid hbl
      have hzo := hbl.size
      by_cases hlt : k < n
      · have HSo := Lib.hid (HS.out.later hbl)
        obtain ⟨b, off, x, rfl, hb, hx, hc0⟩ := HSo.out.int (show 0 < n by omega)
        obtain ⟨b', off', y, e2, _, hy, hc1⟩ := HSo.out.int hlt
        injection e2 with e2
        injection e2 with e3 e4
        subst e3 e4
        rw [Nat.add_zero] at hc0
        have HKo := Lib.hid (HK.out.later hbl)
        have HMT := Lib.hid (fun W (h : Sl W W.heap.size 2 A2 c (zs.map (Value.int .i64))) => l24Met_any A2 c cp2 zs x y W h hc)
        have hf1 := HF1.out k hk1
        rw [hx.out, hy.out] at hf1
        revert HMT hf1
        generalize metB zs x y c = t
        intro HMT hf1
        cases t
        case true =>
          have HFN := Lib.hid (hf1.1 rfl)
          clear hf1 hbl
          go_wp2_with fail
          go_region_with (go_at_call 69; refine (HMT.out _ (by first | exact HKo.out | exact HKo.out.drew)).mono ?_; rintro e w1 ⟨rfl, hb1⟩)
          all_goals
          go_wp2_with fail
          have hbl := HBL.out
          go_roundw
          case rel =>
            refine ⟨k + 1, by omega, by omega, by go_num, fun i hi => ?_, by (repeat' (first | (with_reducible exact Below.refl _ _) | (with_reducible assumption) | (with_reducible refine Below.alloc ?_ ?_ _) | (with_reducible refine Below.drew ?_) | (with_reducible refine belowDrewN ?_ _) | (with_reducible refine Below.setCell ?_ ?_ _) | (with_reducible refine Below.via (by with_reducible assumption) ?_ ?_) | (with_reducible refine Below.viaD (by with_reducible assumption) ?_ ?_) | (with_reducible exact Below.size (by with_reducible assumption)) | go_size | (with_reducible refine Nat.le_trans ?_ (Below.size (by with_reducible assumption))) | (with_reducible refine Nat.le_trans ?_ (sizeAlloc _ _)) | (with_reducible refine Nat.le_trans ?_ (sizeSet _ _ _)) | (with_reducible refine Nat.le_trans ?_ (sizeDrew _))))⟩
            rcases Nat.lt_or_ge i (k - 1) with h | h
            · exact hpre.out i h
            · obtain rfl : i = k - 1 := by omega
              exact HFN.out
          case measure => first | (simp [intOf]; done) | (simp [intOf]; omega)
        case false =>
          have HFF := Lib.hid (hf1.2 rfl)
          clear hf1 hbl
          go_wp2_with fail
          go_region_with (go_at_call 69; refine (HMT.out _ (by first | exact HKo.out | exact HKo.out.drew)).mono ?_; rintro e w0 ⟨rfl, hb0⟩)
          all_goals
          have hbu := Below.undrew hb0
          have B0 := Lib.hid (Below.via hbu HBL.out HBL.out.size)
          have SL0 := Lib.hid (HSo.out.later hbu)
          have K0 := Lib.hid (HKo.out.later hbu)
          clear hb0 hc0 hc1
          go_wp2_with fail
          refine (l24Without_any _ n cp k L _ SL0.out hn12 hnc hcm hk1 hlt).mono ?_
          rintro e w1 ⟨v, rfl, hown, hb1⟩
          obtain ⟨A1, g1, cap1, rfl, hg1, hnc1, hcm1, ho1⟩ := own_of_row hown
          have SL1 := Lib.hid ho1.sl
          have K1 := Lib.hid (K0.out.later hb1)
          have B1 := Lib.hid (Below.via hb1 B0.out B0.out.size)
          have HS1 := Lib.hid (SL0.out.later hb1)
          have hz1 := B1.out.size
          clear hown hb1 ho1
          obtain ⟨l2, q2, ok2, hr2⟩ : ∃ l2 q2 ok2, prD d (pairN (fun a b => metB zs a b c) d (witho L k)) = (l2, q2, ok2) := ⟨_, _, _, rfl⟩
          have HR2 := Lib.hid hr2
          clear hr2
          go_wp2_with fail
          refine (IH.out A1 (n - 2) cap1 (witho L k) _ l2 q2 ok2 (by have := HN.out; omega) hnc1 hcm1 SL1.out K1.out HR2.out).mono ?_
          rintro e w2 ⟨v2, rfl, hown2, hb2⟩
          have B2 := Lib.hid (Below.via hb2 B1.out hz1)
          have HS2 := Lib.hid (HS1.out.later hb2)
          have HO2 := Lib.hid hown2
          have hz2 := B2.out.size
          clear hown2 hb2
          cases ho : pairN (fun a b => metB zs a b c) d (witho L k)
          case none =>
            have h := HR2.out
            rw [prD_none ho] at h
            injection h with h1 h2
            injection h2 with h2 h3
            subst h1 h2 h3
            have HFN : Hid (F (k - 1) = none) := by unfold Hid; rw [HFF.out, ho]; rfl
            clear ho
            go_wp2_with fail
            have hbl := B2.out
            go_roundw
            case rel =>
              refine ⟨k + 1, by omega, by omega, by go_num, fun i hi => ?_, by (repeat' (first | (with_reducible exact Below.refl _ _) | (with_reducible assumption) | (with_reducible refine Below.alloc ?_ ?_ _) | (with_reducible refine Below.drew ?_) | (with_reducible refine belowDrewN ?_ _) | (with_reducible refine Below.setCell ?_ ?_ _) | (with_reducible refine Below.via (by with_reducible assumption) ?_ ?_) | (with_reducible refine Below.viaD (by with_reducible assumption) ?_ ?_) | (with_reducible exact Below.size (by with_reducible assumption)) | go_size | (with_reducible refine Nat.le_trans ?_ (Below.size (by with_reducible assumption))) | (with_reducible refine Nat.le_trans ?_ (sizeAlloc _ _)) | (with_reducible refine Nat.le_trans ?_ (sizeSet _ _ _)) | (with_reducible refine Nat.le_trans ?_ (sizeDrew _))))⟩
              rcases Nat.lt_or_ge i (k - 1) with h | h
              · exact hpre.out i h
              · obtain rfl : i = k - 1 := by omega
                exact HFN.out
            case measure => first | (simp [intOf]; done) | (simp [intOf]; omega)
          case some r =>
            have h := HR2.out
            rw [prD_some ho] at h
            injection h with h1 h2
            injection h2 with h2 h3
            subst h1 h2 h3
            have HFS : Hid (F (k - 1) = some (x :: y :: r)) := by unfold Hid; rw [HFF.out, ho]; rfl
            obtain ⟨y1, y2, y3⟩ := HYES.out (k - 1) _ (by omega) hpre.out HFS.out
            have Y1 := Lib.hid y1
            subst y2 y3
            obtain ⟨A2, g2, cap2, rfl, hg2, hnc2, hcm2, ho2⟩ := own_of_row HO2.out
            have SL2 := Lib.hid ho2.sl
            clear ho y1 ho2
            obtain ⟨b3, off3, x3, e5, _, hx3, hd0⟩ := HS2.out.int (show 0 < n by omega)
            obtain ⟨b4, off4, y3, e6, hb4, hy3, hd1⟩ := HS2.out.int hlt
            injection e5 with e5
            injection e5 with e5 e7
            subst e5 e7
            injection e6 with e6
            injection e6 with e6 e8
            subst e6 e8
            rw [Nat.add_zero] at hd0
            obtain rfl := hx.out.symm.trans hx3.out
            obtain rfl := hy.out.symm.trans hy3.out
            have hS0 : w2.cell? ⟨b, off, none⟩ = some (.int .i64 x) ∧ w2.cell? ⟨b, off + k, none⟩ = some (.int .i64 y) := ⟨hd0, hd1⟩
            have HRA : Hid ((w2.alloc (.cells #[.int .i64 x, .int .i64 y] 52)).drew.ownsRow w2.heap.size 52 2 (.slice (some ⟨w2.heap.size, 0, none⟩) 1 1) 1 [.int .i64 x, .int .i64 y]) :=
              row_below (row_of_blkN (Blk.new w2 52 #[.int .i64 x, .int .i64 y]) (Nat.le_refl _) rfl (by unfold maxLen; omega)) (belowDrewN (Below.refl _ _) 1)
            have HSA : Hid (Sl (w2.alloc (.cells #[.int .i64 x, .int .i64 y] 52)).drew (w2.alloc (.cells #[.int .i64 x, .int .i64 y] 52)).drew.heap.size 2 A2 d (r.map (Value.int .i64))) := (SL2.out.later (Below.alloc (Below.refl _ _) (Nat.le_refl _) _)).drew
            have hzz : w2.heap.size ≤ (w2.alloc (.cells #[.int .i64 x, .int .i64 y] 52)).drew.heap.size := sizeAlloc w2 _
            have HBO : Hid (some b ≠ (Value.slice (some ⟨w2.heap.size, 0, none⟩) 1 1).ownBlock) := by
              intro e
              have h : b = w2.heap.size := by injection e
              omega
            have hn0p : 0 < n := by omega
            have hn0i : (0 : Int) < (n : Int) := by omega
            clear hd0 hd1
            go_wp2_with fail
            go_region_held3 (fun W => W.cell? ⟨b, off, none⟩ = some (.int .i64 x) ∧ W.cell? ⟨b, off + k, none⟩ = some (.int .i64 y)) (first | (with_reducible exact duo_drew hS0) | (with_reducible assumption) | (exact duo_alloc (by with_reducible assumption) _) | (exact duo_grown (by with_reducible assumption) (by with_reducible assumption) HBO.out)) (first
              | (refine step_append_sl _ rfl _ _ 36 rfl w2.heap.size 52 i0 _ 2 16 Try.underlying36 HI.out.1 HI.out.2.1 HI.out.2.2.1 HI.out.2.2.2 rfl (by decide) (.slice (some ⟨w2.heap.size, 0, none⟩) 1 1) 1 [.int .i64 x, .int .i64 y] rfl HRA.out _ A2 d cap2 (r.map (Value.int .i64)) rfl HSA.out (one_cells r) (by unfold maxLen; omega) (by omega) hzz ?_; intro v' w7 hown7 hg7 _))
            all_goals
              have B7 := below_app (belowDrewN (Below.alloc (Below.refl w2.heap.size w2) (Nat.le_refl _) (.cells #[.int .i64 x, .int .i64 y] 52)) 1) HRA.out hg7 (Nat.le_refl _) hzz
              have B8 := Lib.hid (Below.via B7 B2.out hz2)
              have HO7 := Lib.hid (own_baseM hown7 hz2)
              clear hown7 hg7 B7 hS0
              go_wp2_with fail
              go_ret2
              refine ⟨v', rfl, ?_, B8.out⟩
              rw [Y1.out, show d + 1 = 1 + d by omega]
              exact HO7.out
      · obtain rfl : k = n := by omega
        obtain ⟨y1, y2, y3⟩ := HNO.out hpre.out
        subst y1 y2 y3
        go_wp2
        go_ret2
        exact ⟨_, rfl, ⟨rfl, .inl ⟨rfl, rfl⟩⟩, hbl⟩
end Go.Proofs.Yteeplmnjipddaaa
