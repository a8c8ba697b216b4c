/- FnRated: the law. No conditions. -/
import Derived.Test.YtaeeijjejkohjaaRtP
import Derived.Test.YtaeeijjejkohjaaRtE
import Derived.Test.YtaeeijjejkohjaaRtF
import Derived.Test.YtaeeijjejkohjaaKeeps
import Derived.Test.YtaeeijjejkohjaaDraw2
namespace Go.Proofs.Ytaeeijjejkohjaa
set_option linter.unusedSimpArgs false
set_option linter.unusedVariables false
open Go.RowKit Go.WideShapes Go.ChangeShapes

theorem tri_drew {W : World} {b i j k : Nat} {x y z : Value} (h : W.cell? ⟨b, i, none⟩ = some x ∧ W.cell? ⟨b, j, none⟩ = some y ∧ W.cell? ⟨b, k, none⟩ = some z) : W.drew.cell? ⟨b, i, none⟩ = some x ∧ W.drew.cell? ⟨b, j, none⟩ = some y ∧ W.drew.cell? ⟨b, k, none⟩ = some z := h
theorem tri_grown {W W' : World} {b i j k : Nat} {x y z : Value} {row : Option Nat} (h : W.cell? ⟨b, i, none⟩ = some x ∧ W.cell? ⟨b, j, none⟩ = some y ∧ W.cell? ⟨b, k, none⟩ = some z) (hg : W.grownBy W' row) (hne : some b ≠ row) : W'.cell? ⟨b, i, none⟩ = some x ∧ W'.cell? ⟨b, j, none⟩ = some y ∧ W'.cell? ⟨b, k, none⟩ = some z := ⟨hg.cell h.1 hne, hg.cell h.2.1 hne, hg.cell h.2.2 hne⟩
theorem tri_alloc {W : World} {b i j k : Nat} {x y z : Value} (h : W.cell? ⟨b, i, none⟩ = some x ∧ W.cell? ⟨b, j, none⟩ = some y ∧ W.cell? ⟨b, k, none⟩ = some z) (o : Obj) : (W.alloc o).cell? ⟨b, i, none⟩ = some x ∧ (W.alloc o).cell? ⟨b, j, none⟩ = some y ∧ (W.alloc o).cell? ⟨b, k, none⟩ = some z :=
  tri_grown h (grown_alloc (World.grownBy.refl _ none) o) (by simp)
set_option maxRecDepth 100000 in
set_option maxHeartbeats 8000000 in
theorem fnRated_walk (A : Option Addr) (n c : Nat) (cs : List Int) (w : World) (hs : Sl w w.heap.size 1 A n (cs.map (Value.int .u8))) (hm : n ≤ 9223372036854775807) (hb : ∀ z ∈ cs, 0 ≤ z ∧ z ≤ 255) :
    Calls Try.prog 5 #[.slice A n c] w fun e w' => e = .returned (.bool true) ∧ Below w.heap.size w w' := by
  have HS := Lib.hid hs
  have HB := Lib.hid hb
  clear hs hb
  go_enter Try.func5, Try.ntmps5
  go_wp2_with fail
  refine (f6big_any A n c _).mono ?_
  rintro e w_ ⟨q, rfl, hq, rfl⟩
  cases q
  case true =>
    go_wp2_with fail
    go_ret
    exact ⟨rfl, by (repeat' (first | (with_reducible exact Below.refl _ _) | (with_reducible assumption) | (with_reducible refine Below.alloc ?_ ?_ _) | (with_reducible refine Below.drew ?_) | (with_reducible refine belowDrewN ?_ _) | (with_reducible refine Below.setCell ?_ ?_ _) | (with_reducible refine Below.via (by with_reducible assumption) ?_ ?_) | (with_reducible refine Below.viaD (by with_reducible assumption) ?_ ?_) | (with_reducible exact Below.size (by with_reducible assumption)) | go_size | (with_reducible refine Nat.le_trans ?_ (Below.size (by with_reducible assumption))) | (with_reducible refine Nat.le_trans ?_ (sizeAlloc _ _)) | (with_reducible refine Nat.le_trans ?_ (sizeSet _ _ _)) | (with_reducible refine Nat.le_trans ?_ (sizeDrew _))))⟩
  case false =>
  have hn := hq rfl
  clear hq
  go_wp2_with fail
  refine (DrawRateGame_any A n c cs _ HS.out HB.out (by omega)).mono ?_
  rintro e w1 ⟨a0, b0, a1, b1, sc, rfl, hsc0, hsc1, h1⟩
  have KA := Lib.hid (((Keeps.nil w).later h1).box (g := w1.heap.size) rfl #[.int .i64 a0, .int .i64 b0] 24)
  have KB := Lib.hid (KA.out.box (g := w1.heap.size + 1) (by simp) #[.int .i64 a1, .int .i64 b1] 24)
  obtain ⟨x0, x1, x2, x3, code, hrg⟩ : ∃ x0 x1 x2 x3 code, rgR a0 b0 a1 b1 sc = ((x0, x1, x2, x3), code) := ⟨_, _, _, _, _, rfl⟩
  have HRG := Lib.hid hrg
  clear h1 hrg KA
  go_wp2_with fail
  refine (RateGame_any a0 b0 a1 b1 sc x0 x1 x2 x3 code HRG.out _).mono ?_
  rintro e w2 ⟨rfl, h2⟩
  have KC := Lib.hid (((KB.out.later h2).box (g := w2.heap.size) rfl #[.int .i64 x0, .int .i64 x1] 24).box (g := w2.heap.size + 1) (by simp) #[.int .i64 x2, .int .i64 x3] 24)
  clear h2 KB
  have c3 := KC.out.2.2.2.1.2 0
  have c4 := KC.out.2.2.2.1.2 1
  have c5 := KC.out.2.2.2.2.1.2 0
  have c6 := KC.out.2.2.2.2.1.2 1
  go_wp2_with fail
  refine (sRateGame_any a0 b0 a1 b1 sc x0 x1 x2 x3 code HRG.out _).mono ?_
  rintro e w3 ⟨rfl, h3⟩
  have KD := Lib.hid (((KC.out.later h3).box (g := w3.heap.size) rfl #[.int .i64 x0, .int .i64 x1] 24).box (g := w3.heap.size + 1) (by simp) #[.int .i64 x2, .int .i64 x3] 24)
  have HS3 := Lib.hid (HS.out.later KD.out.b)
  have hz3 := KD.out.b.size
  clear h3 KC c3 c4 c5 c6
  go_wp2_with fail
  refine (DrawRatePeriod_any A n c cs _ HS3.out HB.out (by omega)).mono ?_
  rintro e w4 ⟨v1, v2, j1, j2, L, G, rfl, hj1, hj2, hr1, hr2, h4⟩
  obtain ⟨A1, g1, cap1, rfl, hg1, _, _, ho1⟩ := own_of_row hr1
  obtain ⟨A2, g2, cap2, rfl, hg2, _, _, ho2⟩ := own_of_row hr2
  have SL4 := Lib.hid ho1.sl
  have SG4 := Lib.hid ho2.sl
  have KE := Lib.hid (KD.out.later h4)
  have HS4 := Lib.hid (HS3.out.later h4)
  clear hr1 hr2 ho1 ho2 h4 KD
  obtain ⟨l, q, one, hrp⟩ : ∃ l q one, rpR L G j1 j2 = (l, q, one) := ⟨_, _, _, rfl⟩
  have HRP := Lib.hid hrp
  have hqb : q ≤ j1 := by
    rcases Int.decEq (rpE L G j1 j2) 0 with h | h
    · rw [rpR, if_neg h] at hrp; have := congrArg (fun t : List Int × Nat × Int => t.2.1) hrp; simp at this; omega
    · rw [rpR_0 h] at hrp; have := congrArg (fun t : List Int × Nat × Int => t.2.1) hrp; simp at this; omega
  have HVA := Lib.hid (rpR_valid hrp)
  clear hrp
  go_wp2_with fail
  refine (RatePeriod_any A1 A2 j1 cap1 j2 cap2 L G _ SL4.out SG4.out (by omega) (by omega) l q one HRP.out).mono ?_
  rintro e w5 ⟨A5, g5, cap5, rfl, hg5, o5, h5⟩
  have SL5 := Lib.hid (SL4.out.later h5)
  have SG5 := Lib.hid (SG4.out.later h5)
  have KF := Lib.hid (KE.out.later h5)
  have HS5 := Lib.hid (HS4.out.later h5)
  have SA5 := Lib.hid o5.sl
  clear h5 o5 KE
  go_wp2_with fail
  refine (sRatePeriod_any A1 A2 j1 cap1 j2 cap2 L G _ SL5.out SG5.out (by omega) (by omega) l q one HRP.out).mono ?_
  rintro e w6 ⟨A6, g6, cap6, rfl, hg6, o6, h6⟩
  have SL6 := Lib.hid (SL5.out.later h6)
  have SG6 := Lib.hid (SG5.out.later h6)
  have KG := Lib.hid (KF.out.later h6)
  have HS6 := Lib.hid (HS5.out.later h6)
  have SA6 := Lib.hid (SA5.out.later h6)
  have SM6 := Lib.hid o6.sl
  clear h6 o6 KF
  go_wp2_with fail
  refine (DrawStepOf_any A n c cs _ HS6.out HB.out (by omega)).mono ?_
  rintro e w7 ⟨s0, s1, rfl, h7⟩
  have h7' := h7
  have KH := Lib.hid ((KG.out.later h7).box (g := w7.heap.size) rfl #[.int .i64 s0, .int .i64 s1] 24)
  have h7a : Below w6.heap.size w6 (w7.alloc (.cells #[.int .i64 s0, .int .i64 s1] 24)) := Below.alloc h7 h7.size _
  have SL7 := Lib.hid (SL6.out.later h7a)
  have SG7 := Lib.hid (SG6.out.later h7a)
  have SA7 := Lib.hid (SA6.out.later h7a)
  have SM7 := Lib.hid (SM6.out.later h7a)
  clear h7 h7' h7a KG
  obtain ⟨st, hst⟩ : ∃ v, stepC s0 s1 = v := ⟨_, rfl⟩
  obtain ⟨se, hse⟩ : ∃ v, stepE s0 s1 = v := ⟨_, rfl⟩
  have HST := Lib.hid hst
  have HSE := Lib.hid hse
  clear hst hse
  go_wp2_with fail
  refine (StepOf_any s0 s1 _).mono ?_
  rw [HST.out, HSE.out]
  rintro e w8 ⟨rfl, h8⟩
  have SL8 := Lib.hid (SL7.out.later h8)
  have SG8 := Lib.hid (SG7.out.later h8)
  have SA8 := Lib.hid (SA7.out.later h8)
  have SM8 := Lib.hid (SM7.out.later h8)
  have KI := Lib.hid (KH.out.later h8)
  clear h8 KH
  have c0 := KI.out.2.1.2 0
  have c1 := KI.out.2.1.2 1
  go_wp2_with fail
  refine (sStepOf_any s0 s1 _).mono ?_
  rw [HST.out, HSE.out]
  rintro e w9 ⟨rfl, h9⟩
  have SL9 := Lib.hid (SL8.out.later h9)
  have SG9 := Lib.hid (SG8.out.later h9)
  have SA9 := Lib.hid (SA8.out.later h9)
  have SM9 := Lib.hid (SM8.out.later h9)
  have KJ := Lib.hid (KI.out.later h9)
  clear h9 KI c0 c1
  have hbw9 := KJ.out.b
  obtain ⟨_, ⟨_, ks⟩, ⟨_, kq⟩, ⟨_, kp⟩, ⟨_, ky⟩, ⟨_, kx⟩, ⟨_, kb⟩, ⟨_, ka⟩, _⟩ := KJ.out
  have p0 := kp 0
  have p1 := kp 1
  have q0 := kq 0
  have q1 := kq 1
  have x0' := kx 0
  have x1' := kx 1
  have y0 := ky 0
  have y1 := ky 1
  clear ks kq kp ky kx kb ka
  go_wp2_with fail
  clear p0 p1 q0 q1 x0' x1' y0 y1
  go_loopw [23] (fun i wr => ∃ k : Nat, k ≤ q ∧ i = .int .i64 k ∧ Below w9.heap.size w9 wr) (fun i _ => q - (intOf i).toNat)
  case atStart => exact ⟨0, Nat.zero_le _, rfl, Below.refl _ _⟩
  case round =>
    obtain ⟨k, hk, rfl, hbl⟩ := hrel
    rename World => wx
    have HBX := Lib.hid hbl
    have hzx := hbl.size
    clear hbl
    by_cases hlt : k < q
    · obtain ⟨b5, o5, rfl, hb5, hl5, hc5⟩ := (SA9.out.later HBX.out).cellAt hlt
      obtain ⟨b6, o6, rfl, hb6, hl6, hc6⟩ := (SM9.out.later HBX.out).cellAt hlt
      obtain ⟨z0, hz0⟩ : ∃ z, l.getD (k * 2) 0 = z := ⟨_, rfl⟩
      obtain ⟨z1, hz1⟩ : ∃ z, l.getD (k * 2 + 1) 0 = z := ⟨_, rfl⟩
      have c0 := hc5 0 (by omega)
      have c1 := hc5 1 (by omega)
      have d0 := hc6 0 (by omega)
      have d1 := hc6 1 (by omega)
      rw [Nat.add_zero, hz0] at c0 d0
      rw [hz1, ← Nat.add_assoc] at c1 d1
      have hv := HVA.out k hlt
      rw [hz0, hz1] at hv
      have HV := Lib.hid hv
      have hbx := HBX.out
      clear hc5 hc6 hl5 hl6 hv hz0 hz1
      go_wp2_with fail
      go_region_with (go_at_call 28; refine (ValidRated_lit z0 z1 _).mono ?_; rw [HV.out]; rintro e w_ ⟨rfl, rfl⟩)
      all_goals
        go_wp2_with fail
        go_roundw
        case rel => exact ⟨k + 1, by omega, by go_num, by (repeat' (first | (with_reducible exact Below.refl _ _) | (with_reducible assumption) | (with_reducible refine Below.alloc ?_ ?_ _) | (with_reducible refine Below.drew ?_) | (with_reducible refine belowDrewN ?_ _) | (with_reducible refine Below.setCell ?_ ?_ _) | (with_reducible refine Below.via (by with_reducible assumption) ?_ ?_) | (with_reducible refine Below.viaD (by with_reducible assumption) ?_ ?_) | (with_reducible exact Below.size (by with_reducible assumption)) | go_size | (with_reducible refine Nat.le_trans ?_ (Below.size (by with_reducible assumption))) | (with_reducible refine Nat.le_trans ?_ (sizeAlloc _ _)) | (with_reducible refine Nat.le_trans ?_ (sizeSet _ _ _)) | (with_reducible refine Nat.le_trans ?_ (sizeDrew _))))⟩
        case measure => first | (simp [intOf]; done) | (simp [intOf]; omega)
    · obtain rfl : q = k := by omega
      have SLx := Lib.hid (SL9.out.later HBX.out)
      have SGx := Lib.hid (SG9.out.later HBX.out)
      have SAx := Lib.hid (SA9.out.later HBX.out)
      by_cases ho : one = 0
      case neg =>
        have hob : (one == 0) = false := beq_eq_false_iff_ne.2 ho
        clear ho
        by_cases hcz : code = 0
        case neg =>
          have hcb : (code != 0) = true := bne_iff_ne.2 hcz
          have hbw := Below.via HBX.out KJ.out.b KJ.out.b.size
          clear hcz
          go_wp2_with fail
          go_ret
          exact ⟨rfl, by (repeat' (first | (with_reducible exact Below.refl _ _) | (with_reducible assumption) | (with_reducible refine Below.alloc ?_ ?_ _) | (with_reducible refine Below.drew ?_) | (with_reducible refine belowDrewN ?_ _) | (with_reducible refine Below.setCell ?_ ?_ _) | (with_reducible refine Below.via (by with_reducible assumption) ?_ ?_) | (with_reducible refine Below.viaD (by with_reducible assumption) ?_ ?_) | (with_reducible exact Below.size (by with_reducible assumption)) | go_size | (with_reducible refine Nat.le_trans ?_ (Below.size (by with_reducible assumption))) | (with_reducible refine Nat.le_trans ?_ (sizeAlloc _ _)) | (with_reducible refine Nat.le_trans ?_ (sizeSet _ _ _)) | (with_reducible refine Nat.le_trans ?_ (sizeDrew _))))⟩
        case pos =>
          subst hcz
          have KT := Lib.hid (KJ.out.later HBX.out)
          obtain ⟨_, _, _, _, ⟨_, ky⟩, ⟨_, kx⟩, ⟨_, kb⟩, ⟨_, ka⟩, _⟩ := KT.out
          have ka0 := ka 0
          have ka1 := ka 1
          have kb0 := kb 0
          have kb1 := kb 1
          clear ka kb kx ky
          have HR2 := Lib.hid (rg_rp HRG.out)
          have HSA : Hid (Sl ((wx.alloc (.cells (([a0, b0, a1, b1] : List Int).map (Value.int .i64)).toArray 24)).alloc (.cells (([0, 1, sc] : List Int).map (Value.int .i64)).toArray 53)) ((wx.alloc (.cells (([a0, b0, a1, b1] : List Int).map (Value.int .i64)).toArray 24)).alloc (.cells (([0, 1, sc] : List Int).map (Value.int .i64)).toArray 53)).heap.size 2 (some ⟨wx.heap.size, 0, none⟩) 2 (([a0, b0, a1, b1] : List Int).map (Value.int .i64))) := (Blk.sl (m := 2) (n := 2) (rest := []) (by rw [List.append_nil]; exact Blk.new wx 24 _) rfl).later (Below.alloc (Below.refl _ _) (Nat.le_refl _) _)
          have HSB : Hid (Sl ((wx.alloc (.cells (([a0, b0, a1, b1] : List Int).map (Value.int .i64)).toArray 24)).alloc (.cells (([0, 1, sc] : List Int).map (Value.int .i64)).toArray 53)) ((wx.alloc (.cells (([a0, b0, a1, b1] : List Int).map (Value.int .i64)).toArray 24)).alloc (.cells (([0, 1, sc] : List Int).map (Value.int .i64)).toArray 53)).heap.size 3 (some ⟨wx.heap.size + 1, 0, none⟩) 1 (([0, 1, sc] : List Int).map (Value.int .i64))) := by
            exact Blk.sl (m := 3) (n := 1) (zs := [0, 1, sc]) (rest := []) (by rw [List.append_nil]; exact Blk.new' (by simp)) rfl
          have HBT := Lib.hid (Below.alloc (Below.alloc (Below.via HBX.out KJ.out.b KJ.out.b.size) KT.out.b.size (.cells (([a0, b0, a1, b1] : List Int).map (Value.int .i64)).toArray 24)) (Nat.le_trans KT.out.b.size (sizeAlloc _ _)) (.cells (([0, 1, sc] : List Int).map (Value.int .i64)).toArray 53))
          have hzt := HBT.out.size
          go_wp2_with fail
          clear ka0 ka1 kb0 kb1
          refine (RatePeriod_any _ _ 2 2 1 1 [a0, b0, a1, b1] [0, 1, sc] _ HSA.out HSB.out (by omega) (by omega) [x0, x1, x2, x3] 2 0 HR2.out).mono ?_
          rintro e wt ⟨At, gt, capt, rfl, hgt, ot, ht⟩
          have KU := Lib.hid (KT.out.later ((Below.alloc (Below.alloc (Below.refl _ _) (Nat.le_refl _) (.cells (([a0, b0, a1, b1] : List Int).map (Value.int .i64)).toArray 24)) (sizeAlloc _ _) (.cells (([0, 1, sc] : List Int).map (Value.int .i64)).toArray 53)).trans (ht.mono (by simp; omega))))
          have hbz := KU.out.b
          obtain ⟨_, _, _, _, ⟨_, ky⟩, ⟨_, kx⟩, _⟩ := KU.out
          have ky0 := ky 0
          have ky1 := ky 1
          have kx0 := kx 0
          have kx1 := kx 1
          obtain ⟨bt, ot', rfl, hbt, hlt, hct⟩ := ot.sl.cellAt (show 0 < 2 by omega)
          obtain ⟨_, _, e2, _, _, hcu⟩ := ot.sl.cellAt (show 1 < 2 by omega)
          injection e2 with e2; injection e2 with e3 e4; subst e3; subst e4
          have m0 : wt.cell? ⟨bt, ot', none⟩ = some (.int .i64 x0) := hct 0 (by omega)
          have m1 : wt.cell? ⟨bt, ot' + 1, none⟩ = some (.int .i64 x1) := hct 1 (by omega)
          have m2 : wt.cell? ⟨bt, ot' + 2, none⟩ = some (.int .i64 x2) := hcu 0 (by omega)
          have m3 : wt.cell? ⟨bt, ot' + 2 + 1, none⟩ = some (.int .i64 x3) := hcu 1 (by omega)
          clear hct hcu ky kx ht ot hgt hlt
          go_wp2_with fail
          go_region
          go_wp2_with fail
          go_ret
          exact ⟨rfl, by (repeat' (first | (with_reducible exact Below.refl _ _) | (with_reducible assumption) | (with_reducible refine Below.alloc ?_ ?_ _) | (with_reducible refine Below.drew ?_) | (with_reducible refine belowDrewN ?_ _) | (with_reducible refine Below.setCell ?_ ?_ _) | (with_reducible refine Below.via (by with_reducible assumption) ?_ ?_) | (with_reducible refine Below.viaD (by with_reducible assumption) ?_ ?_) | (with_reducible exact Below.size (by with_reducible assumption)) | go_size | (with_reducible refine Nat.le_trans ?_ (Below.size (by with_reducible assumption))) | (with_reducible refine Nat.le_trans ?_ (sizeAlloc _ _)) | (with_reducible refine Nat.le_trans ?_ (sizeSet _ _ _)) | (with_reducible refine Nat.le_trans ?_ (sizeDrew _))))⟩
      case pos =>
        subst ho
        obtain ⟨hqj, hrt⟩ := rpR_turn HRP.out
        have HRT := Lib.hid hrt
        have HQJ := Lib.hid hqj
        have HGS : Hid (∀ k, k < j2 → 0 ≤ G.getD (k * 3 + 2) 0 ∧ G.getD (k * 3 + 2) 0 ≤ 2) := by
          have hE : rpE L G j1 j2 = 0 := by
            rcases Int.decEq (rpE L G j1 j2) 0 with h | h
            · have := HRP.out; rw [rpR, if_neg h] at this; exact absurd (congrArg (fun t : List Int × Nat × Int => t.2.2) this) h
            · exact h
          exact (GOk_of (rpE_cases hE).1 (rpE_cases hE).2.1).s
        obtain ⟨i0, ti, tz0, tz1, tz2⟩ := info_parts info_Outcome3
        have HI := Lib.hid (And.intro ti (And.intro tz0 (And.intro tz1 tz2)))
        clear ti tz0 tz1 tz2 hqj hrt
        go_wp2_with fail
        go_loopw [24, 25] (fun v i w2 => ∃ (k : Nat) (z : Int), k ≤ j2 ∧ z = (j2 : Int) - 1 - k ∧ i = .int .i64 z ∧ w2.ownsRow wx.heap.size 53 3 v k ((turnL G j2 k).map (Value.int .i64)) ∧ Below wx.heap.size wx w2) (fun v _ _ => j2 - vlenM v)
        case atStart => exact ⟨0, (j2 : Int) - 1, Nat.zero_le _, by omega, rfl, World.ownsRow_made _ _ 0 (Nat.le_refl _) (Nat.zero_le _) rfl, by (repeat' (first | (with_reducible exact Below.refl _ _) | (with_reducible assumption) | (with_reducible refine Below.alloc ?_ ?_ _) | (with_reducible refine Below.drew ?_) | (with_reducible refine belowDrewN ?_ _) | (with_reducible refine Below.setCell ?_ ?_ _) | (with_reducible refine Below.via (by with_reducible assumption) ?_ ?_) | (with_reducible refine Below.viaD (by with_reducible assumption) ?_ ?_) | (with_reducible exact Below.size (by with_reducible assumption)) | go_size | (with_reducible refine Nat.le_trans ?_ (Below.size (by with_reducible assumption))) | (with_reducible refine Nat.le_trans ?_ (sizeAlloc _ _)) | (with_reducible refine Nat.le_trans ?_ (sizeSet _ _ _)) | (with_reducible refine Nat.le_trans ?_ (sizeDrew _))))⟩
        case round =>
          obtain ⟨k, z, hk, hz, rfl, hrow, hbl2⟩ := hrel
          rename World => wy
          have HRW := Lib.hid hrow
          have HBY := Lib.hid hbl2
          have hzy := hbl2.size
          obtain ⟨A', g', cap', rfl, hgb, hnc, hcm, _⟩ := own_of_row hrow
          clear hrow hbl2
          by_cases hlt2 : k < j2
          · obtain ⟨p, rfl⟩ : ∃ p : Nat, z = p := ⟨j2 - 1 - k, by omega⟩
            have hpk : p = j2 - 1 - k := by omega
            have hpl : p < j2 := by omega
            obtain ⟨bg, og, rfl, hbg, hlg, hcg⟩ := (SGx.out.below HBY.out).cellAt (show p < j2 by omega)
            obtain ⟨y0, hy0⟩ : ∃ z, G.getD (p * 3) 0 = z := ⟨_, rfl⟩
            obtain ⟨y1, hy1⟩ : ∃ z, G.getD (p * 3 + 1) 0 = z := ⟨_, rfl⟩
            obtain ⟨y2, hy2⟩ : ∃ z, G.getD (p * 3 + 2) 0 = z := ⟨_, rfl⟩
            have hs := HGS.out p (by omega)
            have c0 := hcg 0 (by omega)
            have c1 := hcg 1 (by omega)
            have c2 := hcg 2 (by omega)
            rw [Nat.add_zero, hy0] at c0
            rw [hy1, ← Nat.add_assoc] at c1
            rw [hy2, ← Nat.add_assoc] at c2
            rw [hy2] at hs
            have HT : Hid (turnL G j2 (k + 1) = turnL G j2 k ++ [y1, y0, 2 - y2]) := by unfold Hid; rw [turnL, ← hpk, hy0, hy1, hy2]
            have hws : IntKind.i64.wrap (2 - y2) = 2 - y2 := IntWalk.i64_in _ (by omega)
            have hS0 : wy.cell? ⟨bg, og + p * 3, none⟩ = some (.int .i64 y0) ∧ wy.cell? ⟨bg, og + p * 3 + 1, none⟩ = some (.int .i64 y1) ∧ wy.cell? ⟨bg, og + p * 3 + 2, none⟩ = some (.int .i64 y2) := ⟨c0, c1, c2⟩
            have HRA : Hid ((wy.alloc (.cells #[.int .i64 y1, .int .i64 y0, .int .i64 (2 - y2)] 53)).drew.ownsRow wx.heap.size 53 3 (.slice A' k cap') k ((turnL G j2 k).map (Value.int .i64))) := row_below (row_below HRW.out (Below.alloc (Below.refl _ _) (Nat.le_refl _) _)) (belowDrewN (Below.refl _ _) 1)
            have hzz : wx.heap.size ≤ (wy.alloc (.cells #[.int .i64 y1, .int .i64 y0, .int .i64 (2 - y2)] 53)).drew.heap.size := Nat.le_trans hzy (sizeAlloc wy _)
            have hbo : ∀ k', (Value.slice A' k cap').ownBlock = some k' → bg ≠ k' := fun k' e => by have := (HRW.out.lt k' e).1; omega
            have HBO : Hid (some bg ≠ (Value.slice A' k cap').ownBlock) := fun e => hbo bg e.symm rfl
            have HZ := Lib.hid hz
            clear hcg hlg c0 c1 c2 hy0 hy1 hy2 hpk hbo hz
            go_wp2_with fail
            go_region_held3 (fun W => W.cell? ⟨bg, og + p * 3, none⟩ = some (.int .i64 y0) ∧ W.cell? ⟨bg, og + p * 3 + 1, none⟩ = some (.int .i64 y1) ∧ W.cell? ⟨bg, og + p * 3 + 2, none⟩ = some (.int .i64 y2)) (first | (with_reducible exact tri_drew hS0) | (with_reducible assumption) | (exact tri_alloc (by with_reducible assumption) _) | (exact tri_grown (by with_reducible assumption) (by with_reducible assumption) HBO.out)) (first
              | (refine step_append_sl _ rfl _ _ 44 rfl wx.heap.size 53 i0 _ 3 24 Try.underlying44 HI.out.1 HI.out.2.1 HI.out.2.2.1 HI.out.2.2.2 rfl (by decide) (.slice A' k cap') k ((turnL G j2 k).map (Value.int .i64)) rfl HRA.out (wy.heap.size + 1) _ 1 1 [.int .i64 y1, .int .i64 y0, .int .i64 (2 - y2)] rfl (Sl.drew (Sl.built (w := wy) rfl (Nat.lt_succ_self _) rfl)) (by intro u hu; simp at hu; rcases hu with rfl | rfl | rfl <;> rfl) (by unfold maxLen; omega) (by omega) hzz ?_; intro v' w7 hown7 hg7 _))
            all_goals
              have B7 : Below wx.heap.size wx w7 := below_app (belowDrewN (Below.alloc HBY.out hzy _) 1) HRA.out hg7 (Nat.le_refl _) hzz
              have HB7 := Lib.hid B7
              have HR7 := Lib.hid hown7
              obtain ⟨A7, g7, cap7, rfl, _, _, _, _⟩ := own_of_row hown7
              clear hown7 hg7 B7 hS0
              go_wp2_with fail
              go_roundw
              case rel => exact ⟨k + 1, (p : Int) - 1, by omega, by have := HZ.out; omega, by go_num, by rw [HT.out, List.map_append]; exact HR7.out, HB7.out⟩
              case measure => first | (simp [vlenM]; done) | (simp [vlenM]; omega)
          · obtain rfl : k = j2 := by omega
            obtain rfl : z = -1 := by omega
            have SLy := Lib.hid (SLx.out.later HBY.out)
            have SAy := Lib.hid (SAx.out.later HBY.out)
            have HBZ := Lib.hid (Below.via HBY.out HBX.out hzx)
            go_wp2_with fail
            refine (RatePeriod_any A1 A' j1 cap1 k cap' L (turnL G k k) _ SLy.out (row_sl HRW.out) (by omega) (by omega) l j1 0 HRT.out).mono ?_
            rintro e wz ⟨A10, g10, cap10, rfl, hg10, o10, h10⟩
            have HBV := Lib.hid (Below.via h10 HBZ.out (Nat.le_trans hzx hzy))
            have SAz := Lib.hid (SAy.out.later h10)
            have SOz := Lib.hid o10.sl
            have hzv := HBV.out.size
            obtain rfl : q = j1 := HQJ.out
            clear h10 o10
            go_wp2_with fail
            go_loopw [28] (fun i w3 => ∃ m : Nat, m ≤ q ∧ i = .int .i64 m ∧ Below wz.heap.size wz w3) (fun i _ => q - (intOf i).toNat)
            case atStart => exact ⟨0, Nat.zero_le _, rfl, Below.refl _ _⟩
            case round =>
              obtain ⟨m, hmq, rfl, hbl3⟩ := hrel
              rename World => wu
              have HBU := Lib.hid hbl3
              clear hbl3
              by_cases hlt3 : m < q
              · obtain ⟨b5, o5, rfl, hb5, hl5, hc5⟩ := (SAz.out.later HBU.out).cellAt hlt3
                obtain ⟨b6, o6, rfl, hb6, hl6, hc6⟩ := (SOz.out.later HBU.out).cellAt hlt3
                obtain ⟨z0, hz0⟩ : ∃ z, l.getD (m * 2) 0 = z := ⟨_, rfl⟩
                obtain ⟨z1, hz1⟩ : ∃ z, l.getD (m * 2 + 1) 0 = z := ⟨_, rfl⟩
                have c0 := hc5 0 (by omega)
                have c1 := hc5 1 (by omega)
                have d0 := hc6 0 (by omega)
                have d1 := hc6 1 (by omega)
                rw [Nat.add_zero, hz0] at c0 d0
                rw [hz1, ← Nat.add_assoc] at c1 d1
                have hbx := HBU.out
                clear hc5 hc6 hl5 hl6 hz0 hz1
                go_wp2_with fail
                go_region
                go_wp2_with fail
                go_roundw
                case rel => exact ⟨m + 1, by omega, by go_num, by (repeat' (first | (with_reducible exact Below.refl _ _) | (with_reducible assumption) | (with_reducible refine Below.alloc ?_ ?_ _) | (with_reducible refine Below.drew ?_) | (with_reducible refine belowDrewN ?_ _) | (with_reducible refine Below.setCell ?_ ?_ _) | (with_reducible refine Below.via (by with_reducible assumption) ?_ ?_) | (with_reducible refine Below.viaD (by with_reducible assumption) ?_ ?_) | (with_reducible exact Below.size (by with_reducible assumption)) | go_size | (with_reducible refine Nat.le_trans ?_ (Below.size (by with_reducible assumption))) | (with_reducible refine Nat.le_trans ?_ (sizeAlloc _ _)) | (with_reducible refine Nat.le_trans ?_ (sizeSet _ _ _)) | (with_reducible refine Nat.le_trans ?_ (sizeDrew _))))⟩
                case measure => first | (simp [intOf]; done) | (simp [intOf]; omega)
              · obtain rfl : m = q := by omega
                have HBW := Lib.hid (Below.via HBU.out HBV.out hzv)
                by_cases hcz : code = 0
                case neg =>
                  have hcb : (code != 0) = true := bne_iff_ne.2 hcz
                  have hbw := Below.via HBW.out KJ.out.b KJ.out.b.size
                  clear hcz
                  go_wp2_with fail
                  go_ret
                  exact ⟨rfl, by (repeat' (first | (with_reducible exact Below.refl _ _) | (with_reducible assumption) | (with_reducible refine Below.alloc ?_ ?_ _) | (with_reducible refine Below.drew ?_) | (with_reducible refine belowDrewN ?_ _) | (with_reducible refine Below.setCell ?_ ?_ _) | (with_reducible refine Below.via (by with_reducible assumption) ?_ ?_) | (with_reducible refine Below.viaD (by with_reducible assumption) ?_ ?_) | (with_reducible exact Below.size (by with_reducible assumption)) | go_size | (with_reducible refine Nat.le_trans ?_ (Below.size (by with_reducible assumption))) | (with_reducible refine Nat.le_trans ?_ (sizeAlloc _ _)) | (with_reducible refine Nat.le_trans ?_ (sizeSet _ _ _)) | (with_reducible refine Nat.le_trans ?_ (sizeDrew _))))⟩
                case pos =>
                  subst hcz
                  have KT := Lib.hid (KJ.out.later HBW.out)
                  obtain ⟨_, _, _, _, ⟨_, ky⟩, ⟨_, kx⟩, ⟨_, kb⟩, ⟨_, ka⟩, _⟩ := KT.out
                  have ka0 := ka 0
                  have ka1 := ka 1
                  have kb0 := kb 0
                  have kb1 := kb 1
                  clear ka kb kx ky
                  have HR2 := Lib.hid (rg_rp HRG.out)
                  have HSA : Hid (Sl ((wu.alloc (.cells (([a0, b0, a1, b1] : List Int).map (Value.int .i64)).toArray 24)).alloc (.cells (([0, 1, sc] : List Int).map (Value.int .i64)).toArray 53)) ((wu.alloc (.cells (([a0, b0, a1, b1] : List Int).map (Value.int .i64)).toArray 24)).alloc (.cells (([0, 1, sc] : List Int).map (Value.int .i64)).toArray 53)).heap.size 2 (some ⟨wu.heap.size, 0, none⟩) 2 (([a0, b0, a1, b1] : List Int).map (Value.int .i64))) := (Blk.sl (m := 2) (n := 2) (rest := []) (by rw [List.append_nil]; exact Blk.new wu 24 _) rfl).later (Below.alloc (Below.refl _ _) (Nat.le_refl _) _)
                  have HSB : Hid (Sl ((wu.alloc (.cells (([a0, b0, a1, b1] : List Int).map (Value.int .i64)).toArray 24)).alloc (.cells (([0, 1, sc] : List Int).map (Value.int .i64)).toArray 53)) ((wu.alloc (.cells (([a0, b0, a1, b1] : List Int).map (Value.int .i64)).toArray 24)).alloc (.cells (([0, 1, sc] : List Int).map (Value.int .i64)).toArray 53)).heap.size 3 (some ⟨wu.heap.size + 1, 0, none⟩) 1 (([0, 1, sc] : List Int).map (Value.int .i64))) := by
                    exact Blk.sl (m := 3) (n := 1) (zs := [0, 1, sc]) (rest := []) (by rw [List.append_nil]; exact Blk.new' (by simp)) rfl
                  have HBT := Lib.hid (Below.alloc (Below.alloc (Below.via HBW.out KJ.out.b KJ.out.b.size) KT.out.b.size (.cells (([a0, b0, a1, b1] : List Int).map (Value.int .i64)).toArray 24)) (Nat.le_trans KT.out.b.size (sizeAlloc _ _)) (.cells (([0, 1, sc] : List Int).map (Value.int .i64)).toArray 53))
                  have hzt := HBT.out.size
                  go_wp2_with fail
                  clear ka0 ka1 kb0 kb1
                  refine (RatePeriod_any _ _ 2 2 1 1 [a0, b0, a1, b1] [0, 1, sc] _ HSA.out HSB.out (by omega) (by omega) [x0, x1, x2, x3] 2 0 HR2.out).mono ?_
                  rintro e wt ⟨At, gt, capt, rfl, hgt, ot, ht⟩
                  have KU := Lib.hid (KT.out.later ((Below.alloc (Below.alloc (Below.refl _ _) (Nat.le_refl _) (.cells (([a0, b0, a1, b1] : List Int).map (Value.int .i64)).toArray 24)) (sizeAlloc _ _) (.cells (([0, 1, sc] : List Int).map (Value.int .i64)).toArray 53)).trans (ht.mono (by simp; omega))))
                  have hbz := KU.out.b
                  obtain ⟨_, _, _, _, ⟨_, ky⟩, ⟨_, kx⟩, _⟩ := KU.out
                  have ky0 := ky 0
                  have ky1 := ky 1
                  have kx0 := kx 0
                  have kx1 := kx 1
                  obtain ⟨bt, ot', rfl, hbt, hlt, hct⟩ := ot.sl.cellAt (show 0 < 2 by omega)
                  obtain ⟨_, _, e2, _, _, hcu⟩ := ot.sl.cellAt (show 1 < 2 by omega)
                  injection e2 with e2; injection e2 with e3 e4; subst e3; subst e4
                  have m0 : wt.cell? ⟨bt, ot', none⟩ = some (.int .i64 x0) := hct 0 (by omega)
                  have m1 : wt.cell? ⟨bt, ot' + 1, none⟩ = some (.int .i64 x1) := hct 1 (by omega)
                  have m2 : wt.cell? ⟨bt, ot' + 2, none⟩ = some (.int .i64 x2) := hcu 0 (by omega)
                  have m3 : wt.cell? ⟨bt, ot' + 2 + 1, none⟩ = some (.int .i64 x3) := hcu 1 (by omega)
                  clear hct hcu ky kx ht ot hgt hlt
                  go_wp2_with fail
                  go_region
                  go_wp2_with fail
                  go_ret
                  exact ⟨rfl, by (repeat' (first | (with_reducible exact Below.refl _ _) | (with_reducible assumption) | (with_reducible refine Below.alloc ?_ ?_ _) | (with_reducible refine Below.drew ?_) | (with_reducible refine belowDrewN ?_ _) | (with_reducible refine Below.setCell ?_ ?_ _) | (with_reducible refine Below.via (by with_reducible assumption) ?_ ?_) | (with_reducible refine Below.viaD (by with_reducible assumption) ?_ ?_) | (with_reducible exact Below.size (by with_reducible assumption)) | go_size | (with_reducible refine Nat.le_trans ?_ (Below.size (by with_reducible assumption))) | (with_reducible refine Nat.le_trans ?_ (sizeAlloc _ _)) | (with_reducible refine Nat.le_trans ?_ (sizeSet _ _ _)) | (with_reducible refine Nat.le_trans ?_ (sizeDrew _))))⟩
end Go.Proofs.Ytaeeijjejkohjaa
