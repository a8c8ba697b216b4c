/- FnCaptures: rules, sown seeds and a player are drawn. Conditions: at most 2^20 bytes. -/
import Derived.Test.YtcfbihponecblaaG09
namespace Go.Proofs.Ytcfbihponecblaa
set_option linter.unusedSimpArgs false
set_option linter.unusedVariables false
open Go.RowKit Go.WideShapes Go.ChangeShapes

theorem two_alloc {w : World} {q i j : Nat} {u v : Value} {ob : Obj} (h : w.drew.cell? ⟨q, i, none⟩ = some u ∧ w.drew.cell? ⟨q, j, none⟩ = some v) : (w.alloc ob).drew.cell? ⟨q, i, none⟩ = some u ∧ (w.alloc ob).drew.cell? ⟨q, j, none⟩ = some v := ⟨c1_allocD h.1, c1_allocD h.2⟩
theorem two_over {w w' : World} {p i j : Nat} {u v : Value} {row : Option Nat} (hg : w.grownBy w' row) (hlt : p < w.heap.size) (hne : row ≠ some p) : (w'.cell? ⟨p, i, none⟩ = some u ∧ w'.cell? ⟨p, j, none⟩ = some v) ↔ (w.cell? ⟨p, i, none⟩ = some u ∧ w.cell? ⟨p, j, none⟩ = some v) := by
  rw [cell_over (p := ⟨p, i, none⟩) hg hlt hne, cell_over (p := ⟨p, j, none⟩) hg hlt hne]
/-- Rules, sown seeds, a player; the source as it lies. -/
def SwD (b : Nat) (A : Option Addr) (n c M : Nat) (cs : List Int) (w : World) (e : Ending) (w' : World) : Prop := ∃ (p s : Int) (st sk re fe ag : Bool) (ca sl : Int) (A1 A2 : Option Addr) (n1 c1 c2 : Nat) (zs zs2 : List Int) (last laps pl : Int), e = .returned (.tuple #[.agg #[.int .i64 p, .int .i64 s, .bool st, .bool sk, .bool re, .bool fe, .bool ag, .int .i64 ca, .int .i64 sl], .agg #[.slice A1 n1 c1, .slice A2 2 c2, .int .i64 last, .int .i64 laps], .int .i64 pl]) ∧ n1 ≤ 16 ∧ n1 ≤ c1 ∧ c1 ≤ 9223372036854775807 ∧ Sl w' w'.heap.size 1 A1 n1 (zs.map (Value.int .i64)) ∧ Sl w' w'.heap.size 1 A2 2 (zs2.map (Value.int .i64)) ∧ (∀ b' off, A1 = some ⟨b', off, none⟩ → w.heap.size ≤ b') ∧ (∀ b' off, A2 = some ⟨b', off, none⟩ → w.heap.size ≤ b') ∧ Src w' b A n c (M + 400) cs ∧ w.grownBy w' (some b)
set_option maxRecDepth 20000 in
set_option maxHeartbeats 8000000 in
theorem l06Draw_any (b : Nat) (A : Option Addr) (n c M : Nat) (cs : List Int) (w : World) (h : Src w b A n c M cs) (hn : n ≤ 1048576) (hM : M ≤ 999900000) :
    Calls Try.prog 12 #[.pointer (some ⟨b, 0, none⟩)] w (SwD b A n c M cs w) := by
  have hbl := h.lt
  have HAB := Lib.hid h.aBelow
  have HS := Lib.hid h
  clear h
  go_enter Try.func12, Try.ntmps12
  go_upto_region 1 with fail
  obtain ⟨w1, hw1⟩ : ∃ X_, X_ = (w.alloc (.cells #[.int .i64 0, .int .i64 0, .bool false, .bool false, .bool false, .bool false, .bool false, .int .i64 0, .int .i64 0] 25)).alloc (.cells #[.slice none 0 0, .slice none 0 0, .int .i64 0, .int .i64 0] 28) := ⟨_, rfl⟩
  have B1 : Hid (Below w.heap.size w w1) := by unfold Hid; rw [hw1]; (repeat' (first | (with_reducible exact Below.refl _ _) | (with_reducible assumption) | (with_reducible refine Below.alloc ?_ ?_ _) | (with_reducible refine Below.drew ?_) | (with_reducible refine belowDrewN ?_ _) | (with_reducible refine Below.setCell ?_ ?_ _) | (with_reducible refine Below.via (by with_reducible assumption) ?_ ?_) | (with_reducible refine Below.viaD (by with_reducible assumption) ?_ ?_) | (with_reducible exact Below.size (by with_reducible assumption)) | go_size | (with_reducible refine Nat.le_trans ?_ (Below.size (by with_reducible assumption))) | (with_reducible refine Nat.le_trans ?_ (sizeAlloc _ _)) | (with_reducible refine Nat.le_trans ?_ (sizeSet _ _ _)) | (with_reducible refine Nat.le_trans ?_ (sizeDrew _))))
  have R1 : Hid (Blk w1 w.heap.size 25 #[.int .i64 0, .int .i64 0, .bool false, .bool false, .bool false, .bool false, .bool false, .int .i64 0, .int .i64 0]) := by unfold Hid; rw [hw1]; exact (Blk.new _ _ _).later (Below.alloc (Below.refl _ _) (Nat.le_refl _) _)
  have R2 : Hid (Blk w1 (w.heap.size + 1) 28 #[.slice none 0 0, .slice none 0 0, .int .i64 0, .int .i64 0]) := by unfold Hid; rw [hw1]; exact Blk.new' (by simp)
  have HS1 := Lib.hid (HS.out.later B1.out)
  have HG1 : Hid (w.grownBy w1 (some b)) := grown_far (World.grownBy.refl _ _) B1.out
  have hz1 : w1.heap.size = w.heap.size + 2 := by rw [hw1]; simp
  rw [← hw1]
  clear hw1 HS B1
  go_wp2_with fail
  refine (l02Draw_any b A n c M cs w1 HS1.out hn (by omega)).mono ?_
  rintro e w2 ⟨p, s, st, sk, re, fe, ag, ca, sl, rfl, hp1, hp2, S2, gg⟩
  obtain ⟨P, rfl⟩ := Int.eq_ofNat_of_zero_le (show 0 ≤ p by omega)
  have HS2 := Lib.hid S2
  have HG2 := Lib.hid (grown_tr HG1.out gg)
  have R12 := Lib.hid (blk_over R1.out gg (some_ne (by omega)))
  have R22 := Lib.hid (blk_over R2.out gg (some_ne (by omega)))
  have hz2 := gg.size
  have h2P : 2 ≤ P := by omega
  have h6P : P ≤ 6 := by omega
  clear S2 gg HS1 HG1 R1 R2 hp1 hp2
  go_upto_region 2 with fail
  obtain ⟨w3, hw3⟩ : ∃ X_, X_ = w2.alloc (.cells #[.int .i64 (P : Int), .int .i64 s, .bool st, .bool sk, .bool re, .bool fe, .bool ag, .int .i64 ca, .int .i64 sl] 25) := ⟨_, rfl⟩
  have N3 : Hid (Below w2.heap.size w2 w3) := by unfold Hid; rw [hw3]; exact Below.alloc (Below.refl _ _) (Nat.le_refl _) _
  have X3 : Hid (Blk w3 w2.heap.size 25 #[.int .i64 (P : Int), .int .i64 s, .bool st, .bool sk, .bool re, .bool fe, .bool ag, .int .i64 ca, .int .i64 sl]) := by unfold Hid; rw [hw3]; exact Blk.new _ _ _
  rw [← hw3]
  clear hw3
  have HS3 := Lib.hid (HS2.out.later N3.out)
  have HG3 := Lib.hid (grown_far HG2.out N3.out)
  have R13 := Lib.hid (R12.out.later N3.out)
  have R23 := Lib.hid (R22.out.later N3.out)
  have hz3 := X3.out.lt
  clear N3 HS2 HG2 R12 R22
  go_wp2_with fail
  refine (l04Draw_any b A n c (M + 24) cs w2.heap.size P s w3 HS3.out hn (by omega) (X3.out.cell 0) (X3.out.cell 1) (by omega) h2P (by omega)).mono ?_
  rintro e w4 ⟨g1, g2, c1, zs, zs2, pl, rfl, hg1, hg2, hg12, hnc, hcm, O1, O2, S4, gg⟩
  have hz4 := gg.size
  have hgl1 := O1.lt (by omega)
  have hgl2 := O2.lt (by omega)
  have HS4 := Lib.hid S4
  have HG4 := Lib.hid (grown_tr HG3.out gg)
  have X4 := Lib.hid (blk_over X3.out gg (some_ne (by omega)))
  have R14 := Lib.hid (blk_over R13.out gg (some_ne (by omega)))
  have R24 := Lib.hid (blk_over R23.out gg (some_ne (by omega)))
  have HO1 := Lib.hid O1
  have HO2 := Lib.hid O2
  clear S4 gg O1 O2 HS3 HG3 X3 R13 R23
  go_upto_region 3 with fail
  obtain ⟨w5, hw5⟩ : ∃ X_, X_ = w4.alloc (.cells #[.slice (some ⟨g1, 0, none⟩) (2 * P) c1, .slice (some ⟨g2, 0, none⟩) 2 2, .int .i64 pl] 58) := ⟨_, rfl⟩
  have N5 : Hid (Below w4.heap.size w4 w5) := by unfold Hid; rw [hw5]; exact Below.alloc (Below.refl _ _) (Nat.le_refl _) _
  have X5 : Hid (Blk w5 w4.heap.size 58 #[.slice (some ⟨g1, 0, none⟩) (2 * P) c1, .slice (some ⟨g2, 0, none⟩) 2 2, .int .i64 pl]) := by unfold Hid; rw [hw5]; exact Blk.new _ _ _
  rw [← hw5]
  clear hw5
  have HD : Hid (QD w b A n w2.heap.size w4.heap.size g1 g2) := ⟨hbl, by omega, by omega, by omega, by omega, by omega, by omega, by omega, by omega, by omega, hg12, HAB.out⟩
  have P5 : Hid (QS 25 28 58 2 w b A n c cs w2.heap.size w4.heap.size g1 g2 (2 * P) #[.int .i64 (P : Int), .int .i64 s, .bool st, .bool sk, .bool re, .bool fe, .bool ag, .int .i64 ca, .int .i64 sl] #[.slice (some ⟨g1, 0, none⟩) (2 * P) c1, .slice (some ⟨g2, 0, none⟩) 2 2, .int .i64 pl] (M + 114) w5) := ⟨X4.out.later N5.out, X5.out, ⟨zs, HO1.out.later N5.out⟩, ⟨zs2, HO2.out.later N5.out⟩, R14.out.later N5.out, R24.out.later N5.out, HS4.out.later N5.out, grown_far HG4.out N5.out⟩
  obtain ⟨br, hbr⟩ : ∃ X_, w2.heap.size = X_ := ⟨_, rfl⟩
  obtain ⟨q, hq⟩ : ∃ X_, w4.heap.size = X_ := ⟨_, rfl⟩
  rw [hbr, hq] at HD P5
  rw [hbr, hq]
  have hc1 : c1 ≤ 9223372036854775807 := by unfold maxLen at hcm; omega
  have hc4 : 4 ≤ c1 := by omega
  clear hbr hq N5 X5 HO1 HO2 X4 R14 R24 HS4 HG4 HAB hz1 hz2 hz3 hz4 hg1 hg2 hgl1 hgl2 hcm
  go_wp2_with fail
  refine (one_any b A n c (M + 114) cs 2 _ P5.out.s hn (by omega) (by omega)).mono ?_
  rintro e w6 ⟨q2, rfl, S, gg⟩
  have P6 := Lib.hid (P5.out.draw HD.out S gg)
  clear S gg P5
  go_upto_if 17 with fail
  go_cut [6] (fun s6 wx => s6 = .pointer (some ⟨q, 0, none⟩) ∧ QS 25 28 58 2 w b A n c cs br q g1 g2 (2 * P) #[.int .i64 (P : Int), .int .i64 s, .bool st, .bool sk, .bool re, .bool fe, .bool ag, .int .i64 ca, .int .i64 sl] #[.slice (some ⟨g1, 0, none⟩) (2 * P) c1, .slice (some ⟨g2, 0, none⟩) 2 2, .int .i64 pl] (M + 146) wx)
  case first =>
    cases q2
    case false =>
      go_wp2_with fail
      go_meet
      exact ⟨rfl, P6.out.mono (by omega)⟩
    case true =>
      go_wp2_with fail
      go_loopw [7] (fun v7 wr => ∃ k : Nat, v7 = .int .i64 k ∧ k ≤ 2 * P ∧ QS 25 28 58 2 w b A n c cs br q g1 g2 (2 * P) #[.int .i64 (P : Int), .int .i64 s, .bool st, .bool sk, .bool re, .bool fe, .bool ag, .int .i64 ca, .int .i64 sl] #[.slice (some ⟨g1, 0, none⟩) (2 * P) c1, .slice (some ⟨g2, 0, none⟩) 2 2, .int .i64 pl] (M + 116 + 2 * k) wr) (fun v7 _ => 2 * P - (intOf v7).toNat)
      case atStart => exact ⟨0, rfl, by omega, P6.out⟩
      case round =>
        obtain ⟨k, rfl, hk, Po⟩ := hrel
        rename World => wo
        have Po := Lib.hid Po
        obtain ⟨⟨x0, x1, x2⟩, ⟨y0, y1, y2⟩, hxl⟩ := blk3 Po.out.x
        by_cases hlt : k < 2 * P
        case pos =>
          have hlt' : (k : Int) < 2 * (P : Int) := by omega
          have HST : Hid (wo.drew.cell? ⟨q, 0, none⟩ = some (.slice (some ⟨g1, 0, none⟩) (2 * P) c1)) := x0
          have hne1 : g1 ≠ q := HD.out.n4.symm
          have hnb : some b ≠ some q := some_ne (by have := HD.out.b2; omega)
          go_wp2_with fail
          refine wp_region_held_drew (S := (fun W => W.cell? ⟨q, 0, none⟩ = some (.slice (some ⟨g1, 0, none⟩) (2 * P) c1))) (by kernel_rfl) ?_ (fun hHeld => ?_)
          focus ((try dsimp only); (first | (with_reducible exact hk4) | (with_reducible exact HST.out) | (with_reducible exact c1_allocD HST.out) | (with_reducible exact c1_set hHeld hne1)))
          refine H_take (i := 0) (v := ?_) rfl (by kernel_rfl) (by kernel_rfl) (by kernel_rfl) (fun _ _ _ h => h) (by rfl) ?_ (by assumption) ?_
          rotate_left
          focus (intro w hSw; have c0 := hSw; go_simp; first | done | with_reducible rfl | (trace_state; fail))
          try simp only [Act.put, List.setIfInBounds_toArray, List.set_cons_zero, List.set_cons_succ]
          refine H_take (i := 1) (v := ?_) rfl (by kernel_rfl) (by kernel_rfl) (by kernel_rfl) (fun _ _ _ h => h) (by rfl) ?_ (by assumption) ?_
          rotate_left
          focus (intro w hSw; have c0 := hSw; go_simp; first | done | with_reducible rfl | (trace_state; fail))
          try simp only [Act.put, List.setIfInBounds_toArray, List.set_cons_zero, List.set_cons_succ]
          refine H_take (i := 2) (v := ?_) rfl (by kernel_rfl) (by kernel_rfl) (by kernel_rfl) (fun _ _ _ h => h) (by rfl) ?_ (by assumption) ?_
          rotate_left
          focus (intro w hSw; have c0 := hSw; go_simp; first | done | with_reducible rfl | (trace_state; fail))
          try simp only [Act.put, List.setIfInBounds_toArray, List.set_cons_zero, List.set_cons_succ]
          refine H_take (i := 3) (v := ?_) rfl (by kernel_rfl) (by kernel_rfl) (by kernel_rfl) (fun _ _ _ h => h) (by rfl) ?_ (by assumption) ?_
          rotate_left
          focus (intro w hSw; have c0 := hSw; go_simp; first | done | with_reducible rfl | (trace_state; fail))
          try simp only [Act.put, List.setIfInBounds_toArray, List.set_cons_zero, List.set_cons_succ]
          refine H_call (i := 4) rfl (by kernel_rfl) (fun K hK => ?_)
          go_simp
          skip
          refine hK.out _ _ ?_ (fun hHeld => ?_)
          focus ((try dsimp only); (first | (with_reducible exact hk4) | (with_reducible exact HST.out) | (with_reducible exact c1_allocD HST.out) | (with_reducible exact c1_set hHeld hne1)))
          clear hK K
          try simp only [Act.put, List.setIfInBounds_toArray, List.set_cons_zero, List.set_cons_succ]
          refine H_call (i := 5) rfl (by kernel_rfl) (fun K hK => ?_)
          go_simp
          (go_at_call 23; (refine Calls.mono (amongWD b A n c (M + 116 + 2 * k) cs [0, 1, 2, 3, 2, 3, 4] 7 _ Po.out.s hn (by omega) rfl (by omega) (by omega)) ?_); rintro e w8 ⟨x, rfl, -, S4, g4⟩; have hk4 := (cell_over (p := ⟨q, 0, none⟩) g4 hxl hnb).trans HST.out; have P4 := Lib.hid (Po.out.draw HD.out S4 g4); obtain ⟨⟨z, t0⟩, t1⟩ := P4.out.pitAt hlt; clear S4 g4)
          refine hK.out _ _ ?_ (fun hHeld => ?_)
          focus ((try dsimp only); (first | (with_reducible exact hk4) | (with_reducible exact HST.out) | (with_reducible exact c1_allocD HST.out) | (with_reducible exact c1_set hHeld hne1)))
          clear hK K
          try simp only [Act.put, List.setIfInBounds_toArray, List.set_cons_zero, List.set_cons_succ]
          refine H_take (i := 6) (v := ?_) rfl (by kernel_rfl) (by kernel_rfl) (by kernel_rfl) (fun _ _ _ h => h) (by rfl) ?_ (by assumption) ?_
          rotate_left
          focus (intro w hSw; have c0 := hSw; go_simp; first | done | with_reducible rfl | (trace_state; fail))
          try simp only [Act.put, List.setIfInBounds_toArray, List.set_cons_zero, List.set_cons_succ]
          refine H_call (i := 7) rfl (by kernel_rfl) (fun K hK => ?_)
          go_simp
          skip
          refine hK.out _ _ ?_ (fun hHeld => ?_)
          focus ((try dsimp only); (first | (with_reducible exact hk4) | (with_reducible exact HST.out) | (with_reducible exact c1_allocD HST.out) | (with_reducible exact c1_set hHeld hne1)))
          clear hK K
          try simp only [Act.put, List.setIfInBounds_toArray, List.set_cons_zero, List.set_cons_succ]
          refine wpAnyH_done (by kernel_rfl) ?_ _
          go_wp2_with fail
          go_roundw
          case rel => exact ⟨k + 1, by first | rfl | go_num, by omega, (P4.out.pit HD.out hlt x).mono (by omega)⟩
          case measure => first | (simp [intOf]; done) | (simp [intOf]; omega)
        case neg =>
          have hlt' : ¬ (k : Int) < 2 * (P : Int) := by omega
          go_wp2_with fail
          go_meet
          exact ⟨rfl, Po.out.mono (by omega)⟩
  case rest =>
  obtain ⟨rfl, P7⟩ := hcut
  rename World => w7
  have P7 := Lib.hid P7
  clear P6
  obtain ⟨⟨x0, x1, x2⟩, ⟨y0, y1, y2⟩, hxl⟩ := blk3 P7.out.x
  have hnb : some b ≠ some q := some_ne (by have := HD.out.b2; omega)
  have HST : Hid (w7.drew.cell? ⟨q, 0, none⟩ = some (.slice (some ⟨g1, 0, none⟩) (2 * P) c1) ∧ w7.drew.cell? ⟨q, 1, none⟩ = some (.slice (some ⟨g2, 0, none⟩) 2 2)) := ⟨x0, x1⟩
  go_upto_region 8 with fail
  go_cut [8] (fun s8 wx => ∃ (qx : Nat) (lp : Int), s8 = .pointer (some ⟨qx, 0, none⟩) ∧ QD w b A n br qx g1 g2 ∧ QS 25 28 28 2 w b A n c cs br qx g1 g2 (2 * P) #[.int .i64 (P : Int), .int .i64 s, .bool st, .bool sk, .bool re, .bool fe, .bool ag, .int .i64 ca, .int .i64 sl] #[.slice (some ⟨g1, 0, none⟩) (2 * P) c1, .slice (some ⟨g2, 0, none⟩) 2 2, .int .i64 0, .int .i64 lp] (M + 148) wx)
  case first =>
    have DB := Lib.hid (P7.out.freshD HD.out (by omega))
    have PB := Lib.hid ((P7.out.fresh 28 #[.slice none 0 0, .slice none 0 0, .int .i64 0, .int .i64 0]).dr)
    have hq7 : w7.heap.size ≠ q := by omega
    refine wp_region_held_drew (S := (fun W => W.cell? ⟨q, 0, none⟩ = some (.slice (some ⟨g1, 0, none⟩) (2 * P) c1) ∧ W.cell? ⟨q, 1, none⟩ = some (.slice (some ⟨g2, 0, none⟩) 2 2))) (by kernel_rfl) ?_ (fun hHeld => ?_)
    focus ((try dsimp only); (first | (with_reducible exact hk4) | (with_reducible exact HST.out) | (with_reducible exact two_alloc HST.out) | (with_reducible exact ⟨c1_alloc hk4.1, c1_alloc hk4.2⟩) | (with_reducible exact ⟨c1_set (c1_set (c1_set (c1_set hk4.1 hq7) hq7) hq7) hq7, c1_set (c1_set (c1_set (c1_set hk4.2 hq7) hq7) hq7) hq7⟩)))
    refine H_take (i := 0) (v := ?_) rfl (by kernel_rfl) (by kernel_rfl) (by kernel_rfl) (fun _ _ _ h => h) (by rfl) ?_ (by assumption) ?_
    rotate_left
    focus (intro w hSw; obtain ⟨c0, c1⟩ := hSw; go_simp; first | done | with_reducible rfl | (trace_state; fail))
    try simp only [Act.put, List.setIfInBounds_toArray, List.set_cons_zero, List.set_cons_succ]
    refine H_take (i := 1) (v := ?_) rfl (by kernel_rfl) (by kernel_rfl) (by kernel_rfl) (fun _ _ _ h => h) (by rfl) ?_ (by assumption) ?_
    rotate_left
    focus (intro w hSw; obtain ⟨c0, c1⟩ := hSw; go_simp; first | done | with_reducible rfl | (trace_state; fail))
    try simp only [Act.put, List.setIfInBounds_toArray, List.set_cons_zero, List.set_cons_succ]
    refine H_take (i := 2) (v := ?_) rfl (by kernel_rfl) (by kernel_rfl) (by kernel_rfl) (fun _ _ _ h => h) (by rfl) ?_ (by assumption) ?_
    rotate_left
    focus (intro w hSw; obtain ⟨c0, c1⟩ := hSw; go_simp; first | done | with_reducible rfl | (trace_state; fail))
    try simp only [Act.put, List.setIfInBounds_toArray, List.set_cons_zero, List.set_cons_succ]
    refine H_take (i := 3) (v := ?_) rfl (by kernel_rfl) (by kernel_rfl) (by kernel_rfl) (fun _ _ _ h => h) (by rfl) ?_ (by assumption) ?_
    rotate_left
    focus (intro w hSw; obtain ⟨c0, c1⟩ := hSw; go_simp; first | done | with_reducible rfl | (trace_state; fail))
    try simp only [Act.put, List.setIfInBounds_toArray, List.set_cons_zero, List.set_cons_succ]
    refine H_take (i := 4) (v := ?_) rfl (by kernel_rfl) (by kernel_rfl) (by kernel_rfl) (fun _ _ _ h => h) (by rfl) ?_ (by assumption) ?_
    rotate_left
    focus (intro w hSw; obtain ⟨c0, c1⟩ := hSw; go_simp; first | done | with_reducible rfl | (trace_state; fail))
    try simp only [Act.put, List.setIfInBounds_toArray, List.set_cons_zero, List.set_cons_succ]
    refine H_two (i := 5) (j := 8) rfl rfl (by kernel_rfl) (fun K hK => ?_) (fun K hK => ?_)
    · go_simp
      (go_at_call 24; (with_reducible refine Calls.mono (pick_any b A n c (M + 146) cs 3 _ P7.out.dr.s hn (by omega) (by omega)) ?_); rintro e w9 ⟨x, rfl, x0', x1', -, S4, g4⟩; have hx3 := x1' (by omega); have hk4 := (two_over (p := q) g4 hxl hnb).mpr HST.out; have P9 := Lib.hid (P7.out.dr.draw HD.out S4 g4); clear S4 g4 x1')
      refine hK.out _ _ ?_ (fun hHeld => ?_)
      focus ((try dsimp only); (first | (with_reducible exact hk4) | (with_reducible exact HST.out) | (with_reducible exact two_alloc HST.out) | (with_reducible exact ⟨c1_alloc hk4.1, c1_alloc hk4.2⟩) | (with_reducible exact ⟨c1_set (c1_set (c1_set (c1_set hk4.1 hq7) hq7) hq7) hq7, c1_set (c1_set (c1_set (c1_set hk4.2 hq7) hq7) hq7) hq7⟩)))
      clear hK K
      try simp only [Act.put, List.setIfInBounds_toArray, List.set_cons_zero, List.set_cons_succ]
      refine H_take (i := 6) (v := ?_) rfl (by kernel_rfl) (by kernel_rfl) (by kernel_rfl) (fun _ _ _ h => h) (by rfl) ?_ (by assumption) ?_
      rotate_left
      focus (intro w hSw; obtain ⟨c0, c1⟩ := hSw; go_simp; first | done | with_reducible rfl | (trace_state; fail))
      try simp only [Act.put, List.setIfInBounds_toArray, List.set_cons_zero, List.set_cons_succ]
      refine H_take (i := 7) (v := ?_) rfl (by kernel_rfl) (by kernel_rfl) (by kernel_rfl) (fun _ _ _ h => h) (by rfl) ?_ (by assumption) ?_
      rotate_left
      focus (intro w hSw; obtain ⟨c0, c1⟩ := hSw; go_simp; first | done | with_reducible rfl | (trace_state; fail))
      try simp only [Act.put, List.setIfInBounds_toArray, List.set_cons_zero, List.set_cons_succ]
      refine H_call (i := 8) rfl (by kernel_rfl) (fun K hK => ?_)
      go_simp
      skip
      refine hK.out _ _ ?_ (fun hHeld => ?_)
      focus ((try dsimp only); (first | (with_reducible exact hk4) | (with_reducible exact HST.out) | (with_reducible exact two_alloc HST.out) | (with_reducible exact ⟨c1_alloc hk4.1, c1_alloc hk4.2⟩) | (with_reducible exact ⟨c1_set (c1_set (c1_set (c1_set hk4.1 hq7) hq7) hq7) hq7, c1_set (c1_set (c1_set (c1_set hk4.2 hq7) hq7) hq7) hq7⟩)))
      clear hK K
      try simp only [Act.put, List.setIfInBounds_toArray, List.set_cons_zero, List.set_cons_succ]
      refine H_call (i := 9) rfl (by kernel_rfl) (fun K hK => ?_)
      go_simp
      skip
      refine hK.out _ _ ?_ (fun hHeld => ?_)
      focus ((try dsimp only); (first | (with_reducible exact hk4) | (with_reducible exact HST.out) | (with_reducible exact two_alloc HST.out) | (with_reducible exact ⟨c1_alloc hk4.1, c1_alloc hk4.2⟩) | (with_reducible exact ⟨c1_set (c1_set (c1_set (c1_set hk4.1 hq7) hq7) hq7) hq7, c1_set (c1_set (c1_set (c1_set hk4.2 hq7) hq7) hq7) hq7⟩)))
      clear hK K
      try simp only [Act.put, List.setIfInBounds_toArray, List.set_cons_zero, List.set_cons_succ]
      refine wpAnyH_done (by kernel_rfl) ?_ _
      go_wp2_with fail
      go_meet
      first
        | exact ⟨w9.heap.size, _, rfl, P9.out.freshD HD.out (by omega), (P9.out.fresh 28 _).mono (by omega)⟩
        | exact ⟨w7.heap.size, _, rfl, DB.out, (P9.out.setX4 DB.out).mono (by omega)⟩
    · go_simp
      skip
      refine hK.out _ _ ?_ (fun hHeld => ?_)
      focus ((try dsimp only); (first | (with_reducible exact hk4) | (with_reducible exact HST.out) | (with_reducible exact two_alloc HST.out) | (with_reducible exact ⟨c1_alloc hk4.1, c1_alloc hk4.2⟩) | (with_reducible exact ⟨c1_set (c1_set (c1_set (c1_set hk4.1 hq7) hq7) hq7) hq7, c1_set (c1_set (c1_set (c1_set hk4.2 hq7) hq7) hq7) hq7⟩)))
      clear hK K
      try simp only [Act.put, List.setIfInBounds_toArray, List.set_cons_zero, List.set_cons_succ]
      refine H_call (i := 5) rfl (by kernel_rfl) (fun K hK => ?_)
      go_simp
      (go_at_call 24; (with_reducible refine Calls.mono (pick_any b A n c (M + 146) cs 3 _ PB.out.s hn (by omega) (by omega)) ?_); rintro e w9 ⟨x, rfl, x0', x1', -, S4, g4⟩; have hx3 := x1' (by omega); have hk4 := (two_over (p := q) g4 (by simp; omega) hnb).mpr (two_alloc HST.out); have P9 := Lib.hid (PB.out.draw DB.out S4 g4); obtain ⟨⟨a0, a1, a2, a3⟩, ⟨b0', b1', b2', b3'⟩, _⟩ := blk4 P9.out.x; clear S4 g4 x1')
      refine hK.out _ _ ?_ (fun hHeld => ?_)
      focus ((try dsimp only); (first | (with_reducible exact hk4) | (with_reducible exact HST.out) | (with_reducible exact two_alloc HST.out) | (with_reducible exact ⟨c1_alloc hk4.1, c1_alloc hk4.2⟩) | (with_reducible exact ⟨c1_set (c1_set (c1_set (c1_set hk4.1 hq7) hq7) hq7) hq7, c1_set (c1_set (c1_set (c1_set hk4.2 hq7) hq7) hq7) hq7⟩)))
      clear hK K
      try simp only [Act.put, List.setIfInBounds_toArray, List.set_cons_zero, List.set_cons_succ]
      refine H_take (i := 6) (v := ?_) rfl (by kernel_rfl) (by kernel_rfl) (by kernel_rfl) (fun _ _ _ h => h) (by rfl) ?_ (by assumption) ?_
      rotate_left
      focus (intro w hSw; obtain ⟨c0, c1⟩ := hSw; go_simp; first | done | with_reducible rfl | (trace_state; fail))
      try simp only [Act.put, List.setIfInBounds_toArray, List.set_cons_zero, List.set_cons_succ]
      refine H_take (i := 7) (v := ?_) rfl (by kernel_rfl) (by kernel_rfl) (by kernel_rfl) (fun _ _ _ h => h) (by rfl) ?_ (by assumption) ?_
      rotate_left
      focus (intro w hSw; obtain ⟨c0, c1⟩ := hSw; go_simp; first | done | with_reducible rfl | (trace_state; fail))
      try simp only [Act.put, List.setIfInBounds_toArray, List.set_cons_zero, List.set_cons_succ]
      refine H_call (i := 9) rfl (by kernel_rfl) (fun K hK => ?_)
      go_simp
      skip
      refine hK.out _ _ ?_ (fun hHeld => ?_)
      focus ((try dsimp only); (first | (with_reducible exact hk4) | (with_reducible exact HST.out) | (with_reducible exact two_alloc HST.out) | (with_reducible exact ⟨c1_alloc hk4.1, c1_alloc hk4.2⟩) | (with_reducible exact ⟨c1_set (c1_set (c1_set (c1_set hk4.1 hq7) hq7) hq7) hq7, c1_set (c1_set (c1_set (c1_set hk4.2 hq7) hq7) hq7) hq7⟩)))
      clear hK K
      try simp only [Act.put, List.setIfInBounds_toArray, List.set_cons_zero, List.set_cons_succ]
      refine wpAnyH_done (by kernel_rfl) ?_ _
      go_wp2_with fail
      go_meet
      first
        | exact ⟨w9.heap.size, _, rfl, P9.out.freshD HD.out (by omega), (P9.out.fresh 28 _).mono (by omega)⟩
        | exact ⟨w7.heap.size, _, rfl, DB.out, (P9.out.setX4 DB.out).mono (by omega)⟩
  case rest =>
  obtain ⟨qx, lp, rfl, D8, P8⟩ := hcut
  rename World => w8
  have P8 := Lib.hid P8
  have HD := Lib.hid D8
  clear P7 HST x0 x1 x2 y0 y1 y2 hxl hnb D8
  obtain ⟨⟨x0, x1, x2, x3⟩, ⟨y0, y1, y2, y3⟩, hxl⟩ := blk4 P8.out.x
  obtain ⟨⟨u0, u1, u2, u3, u4, u5, u6, u7, u8⟩, _, _⟩ := blk9 P8.out.rb
  go_wp2_with fail
  refine (pick_any b A n c (M + 148) cs (2 * (P : Int)) _ P8.out.s hn (by omega) (by omega)).mono ?_
  rintro e w9 ⟨last, rfl, l0, l1, -, S, gg⟩
  have hl := l1 (by omega)
  obtain ⟨L, rfl⟩ := Int.eq_ofNat_of_zero_le l0
  have hL : L < 2 * P := by omega
  have P9 := Lib.hid (P8.out.draw HD.out S gg)
  clear S gg P8 x0 x1 x2 x3 y0 y1 y2 y3 hxl u0 u1 u2 u3 u4 u5 u6 u7 u8 l0 l1
  obtain ⟨⟨x0, x1, x2, x3⟩, ⟨y0, y1, y2, y3⟩, hxl⟩ := blk4 P9.out.x
  go_upto_region 10 with fail
  obtain ⟨wa, hwa⟩ : ∃ X_, X_ = w9.setCell ⟨qx, 2, none⟩ (.int .i64 (L : Int)) := ⟨_, rfl⟩
  have Pa : Hid (QS 25 28 28 2 w b A n c cs br qx g1 g2 (2 * P) #[.int .i64 (P : Int), .int .i64 s, .bool st, .bool sk, .bool re, .bool fe, .bool ag, .int .i64 ca, .int .i64 sl] #[.slice (some ⟨g1, 0, none⟩) (2 * P) c1, .slice (some ⟨g2, 0, none⟩) 2 2, .int .i64 (L : Int), .int .i64 lp] (M + 150) wa) := by unfold Hid; rw [hwa]; have h := P9.out.setX HD.out 2 (.int .i64 (L : Int)); simpa only [List.setIfInBounds_toArray, List.set_cons_zero, List.set_cons_succ] using h
  rw [← hwa]
  clear hwa P9 x0 x1 x2 x3 y0 y1 y2 y3 hxl
  go_cut [57] (fun s57 wx => ∃ t : Bool, s57 = .bool t ∧ QS 25 28 28 2 w b A n c cs br qx g1 g2 (2 * P) #[.int .i64 (P : Int), .int .i64 s, .bool st, .bool sk, .bool re, .bool fe, .bool ag, .int .i64 ca, .int .i64 sl] #[.slice (some ⟨g1, 0, none⟩) (2 * P) c1, .slice (some ⟨g2, 0, none⟩) 2 2, .int .i64 (L : Int), .int .i64 lp] (M + 152) wx)
  case first =>
    obtain ⟨⟨x0, x1, x2, x3⟩, ⟨y0, y1, y2, y3⟩, hxl⟩ := blk4 Pa.out.x
    obtain ⟨⟨z, t0⟩, t1⟩ := Pa.out.pitAt hL
    by_cases hz : z = 0
    · subst hz
      go_wp2_with fail
      refine (one_any b A n c (M + 150) cs 10 _ Pa.out.s hn (by omega) (by omega)).mono ?_
      rintro e wb ⟨qq, rfl, S, gg⟩
      have Pb := Lib.hid (Pa.out.draw HD.out S gg)
      clear S gg
      go_wp2_with fail
      go_meet
      exact ⟨_, rfl, Pb.out⟩
    · have hzb : (z == 0) = false := beq_eq_false_iff_ne.mpr hz
      go_wp2_with fail
      go_meet
      exact ⟨_, rfl, Pa.out.mono (by omega)⟩
  case rest =>
  obtain ⟨t, rfl, Pb⟩ := hcut
  rename World => wb
  have Pb := Lib.hid Pb
  clear Pa
  go_upto_if 57 with fail
  go_cut [8] (fun s8 wx => s8 = .pointer (some ⟨qx, 0, none⟩) ∧ QS 25 28 28 2 w b A n c cs br qx g1 g2 (2 * P) #[.int .i64 (P : Int), .int .i64 s, .bool st, .bool sk, .bool re, .bool fe, .bool ag, .int .i64 ca, .int .i64 sl] #[.slice (some ⟨g1, 0, none⟩) (2 * P) c1, .slice (some ⟨g2, 0, none⟩) 2 2, .int .i64 (L : Int), .int .i64 lp] (M + 154) wx)
  case first =>
    cases t
    case false =>
      go_wp2_with fail
      go_meet
      exact ⟨rfl, Pb.out.mono (by omega)⟩
    case true =>
      obtain ⟨⟨x0, x1, x2, x3⟩, ⟨y0, y1, y2, y3⟩, hxl⟩ := blk4 Pb.out.x
      have HST : Hid (wb.drew.cell? ⟨qx, 0, none⟩ = some (.slice (some ⟨g1, 0, none⟩) (2 * P) c1) ∧ wb.drew.cell? ⟨qx, 2, none⟩ = some (.int .i64 (L : Int))) := ⟨x0, x2⟩
      have hne1 : g1 ≠ qx := HD.out.n4.symm
      have hnb : some b ≠ some qx := some_ne (by have := HD.out.b2; omega)
      go_wp2_with fail
      refine wp_region_held_drew (S := (fun W => W.cell? ⟨qx, 0, none⟩ = some (.slice (some ⟨g1, 0, none⟩) (2 * P) c1) ∧ W.cell? ⟨qx, 2, none⟩ = some (.int .i64 (L : Int)))) (by kernel_rfl) ?_ (fun hHeld => ?_)
      focus ((try dsimp only); (first | (with_reducible exact hk4) | (with_reducible exact HST.out) | (with_reducible exact ⟨c1_set hHeld.1 hne1, c1_set hHeld.2 hne1⟩)))
      refine H_take (i := 0) (v := ?_) rfl (by kernel_rfl) (by kernel_rfl) (by kernel_rfl) (fun _ _ _ h => h) (by rfl) ?_ (by assumption) ?_
      rotate_left
      focus (intro w hSw; obtain ⟨c0, c1⟩ := hSw; go_simp; first | done | with_reducible rfl | (trace_state; fail))
      try simp only [Act.put, List.setIfInBounds_toArray, List.set_cons_zero, List.set_cons_succ]
      refine H_take (i := 1) (v := ?_) rfl (by kernel_rfl) (by kernel_rfl) (by kernel_rfl) (fun _ _ _ h => h) (by rfl) ?_ (by assumption) ?_
      rotate_left
      focus (intro w hSw; obtain ⟨c0, c1⟩ := hSw; go_simp; first | done | with_reducible rfl | (trace_state; fail))
      try simp only [Act.put, List.setIfInBounds_toArray, List.set_cons_zero, List.set_cons_succ]
      refine H_take (i := 2) (v := ?_) rfl (by kernel_rfl) (by kernel_rfl) (by kernel_rfl) (fun _ _ _ h => h) (by rfl) ?_ (by assumption) ?_
      rotate_left
      focus (intro w hSw; obtain ⟨c0, c1⟩ := hSw; go_simp; first | done | with_reducible rfl | (trace_state; fail))
      try simp only [Act.put, List.setIfInBounds_toArray, List.set_cons_zero, List.set_cons_succ]
      refine H_take (i := 3) (v := ?_) rfl (by kernel_rfl) (by kernel_rfl) (by kernel_rfl) (fun _ _ _ h => h) (by rfl) ?_ (by assumption) ?_
      rotate_left
      focus (intro w hSw; obtain ⟨c0, c1⟩ := hSw; go_simp; first | done | with_reducible rfl | (trace_state; fail))
      try simp only [Act.put, List.setIfInBounds_toArray, List.set_cons_zero, List.set_cons_succ]
      refine H_take (i := 4) (v := ?_) rfl (by kernel_rfl) (by kernel_rfl) (by kernel_rfl) (fun _ _ _ h => h) (by rfl) ?_ (by assumption) ?_
      rotate_left
      focus (intro w hSw; obtain ⟨c0, c1⟩ := hSw; go_simp; first | done | with_reducible rfl | (trace_state; fail))
      try simp only [Act.put, List.setIfInBounds_toArray, List.set_cons_zero, List.set_cons_succ]
      refine H_call (i := 5) rfl (by kernel_rfl) (fun K hK => ?_)
      go_simp
      (go_at_call 24; (with_reducible refine Calls.mono (pick_any b A n c (M + 152) cs 3 _ Pb.out.dr.s hn (by omega) (by omega)) ?_); rintro e w9 ⟨x, rfl, x0', x1', -, S4, g4⟩; have hx3 := x1' (by omega); have hk4 := (two_over (p := qx) g4 hxl hnb).mpr HST.out; have P4 := Lib.hid (Pb.out.dr.draw HD.out S4 g4); obtain ⟨⟨z, t0⟩, t1⟩ := P4.out.pitAt hL; clear S4 g4 x1')
      refine hK.out _ _ ?_ (fun hHeld => ?_)
      focus ((try dsimp only); (first | (with_reducible exact hk4) | (with_reducible exact HST.out) | (with_reducible exact ⟨c1_set hHeld.1 hne1, c1_set hHeld.2 hne1⟩)))
      clear hK K
      try simp only [Act.put, List.setIfInBounds_toArray, List.set_cons_zero, List.set_cons_succ]
      refine H_take (i := 6) (v := ?_) rfl (by kernel_rfl) (by kernel_rfl) (by kernel_rfl) (fun _ _ _ h => h) (by rfl) ?_ (by assumption) ?_
      rotate_left
      focus (intro w hSw; obtain ⟨c0, c1⟩ := hSw; go_simp; first | done | with_reducible rfl | (trace_state; fail))
      try simp only [Act.put, List.setIfInBounds_toArray, List.set_cons_zero, List.set_cons_succ]
      refine H_take (i := 7) (v := ?_) rfl (by kernel_rfl) (by kernel_rfl) (by kernel_rfl) (fun _ _ _ h => h) (by rfl) ?_ (by assumption) ?_
      rotate_left
      focus (intro w hSw; obtain ⟨c0, c1⟩ := hSw; go_simp; first | done | with_reducible rfl | (trace_state; fail))
      try simp only [Act.put, List.setIfInBounds_toArray, List.set_cons_zero, List.set_cons_succ]
      refine H_call (i := 8) rfl (by kernel_rfl) (fun K hK => ?_)
      go_simp
      skip
      refine hK.out _ _ ?_ (fun hHeld => ?_)
      focus ((try dsimp only); (first | (with_reducible exact hk4) | (with_reducible exact HST.out) | (with_reducible exact ⟨c1_set hHeld.1 hne1, c1_set hHeld.2 hne1⟩)))
      clear hK K
      try simp only [Act.put, List.setIfInBounds_toArray, List.set_cons_zero, List.set_cons_succ]
      refine wpAnyH_done (by kernel_rfl) ?_ _
      go_wp2_with fail
      go_meet
      exact ⟨rfl, P4.out.pit HD.out hL _⟩
  case rest =>
  obtain ⟨rfl, Pc⟩ := hcut
  rename World => wc
  have Pc := Lib.hid Pc
  clear Pb
  go_wp2_with fail
  refine (one_any b A n c (M + 154) cs 4 _ Pc.out.s hn (by omega) (by omega)).mono ?_
  rintro e wd ⟨q4, rfl, S, gg⟩
  have Pd := Lib.hid (Pc.out.draw HD.out S gg)
  clear S gg Pc
  go_upto_if 67 with fail
  go_cut [8] (fun s8 wx => s8 = .pointer (some ⟨qx, 0, none⟩) ∧ QS 25 28 28 2 w b A n c cs br qx g1 g2 (2 * P) #[.int .i64 (P : Int), .int .i64 s, .bool st, .bool sk, .bool re, .bool fe, .bool ag, .int .i64 ca, .int .i64 sl] #[.slice (some ⟨g1, 0, none⟩) (2 * P) c1, .slice (some ⟨g2, 0, none⟩) 2 2, .int .i64 (L : Int), .int .i64 lp] (M + 158) wx)
  case first =>
    cases q4
    case false =>
      go_wp2_with fail
      go_meet
      exact ⟨rfl, Pd.out.mono (by omega)⟩
    case true =>
      go_wp2_with fail
      refine (pick_any b A n c (M + 156) cs 2 _ Pd.out.s hn (by omega) (by omega)).mono ?_
      rintro e we ⟨sd, rfl, sd0, sd1, -, S, gg⟩
      have hsd := sd1 (by omega)
      have Pe := Lib.hid (Pd.out.draw HD.out S gg)
      obtain ⟨⟨u0, u1, u2, u3, u4, u5, u6, u7, u8⟩, _, _⟩ := blk9 Pe.out.rb
      clear S gg Pd sd1
      rcases (show sd = 0 ∨ sd = 1 by omega) with rfl | rfl
      · go_wp2_with fail
        go_loopw [10] (fun v10 wr => ∃ k : Nat, v10 = .int .i64 k ∧ 0 ≤ k ∧ k ≤ P ∧ QS 25 28 28 2 w b A n c cs br qx g1 g2 (2 * P) #[.int .i64 (P : Int), .int .i64 s, .bool st, .bool sk, .bool re, .bool fe, .bool ag, .int .i64 ca, .int .i64 sl] #[.slice (some ⟨g1, 0, none⟩) (2 * P) c1, .slice (some ⟨g2, 0, none⟩) 2 2, .int .i64 (L : Int), .int .i64 lp] (M + 158) wr) (fun v10 _ => P - (intOf v10).toNat)
        case atStart => exact ⟨0, by first | rfl | go_num | (congr 1; omega), by omega, by omega, Pe.out⟩
        case round =>
          obtain ⟨k, rfl, hk0, hk, Po⟩ := hrel
          rename World => wo
          have Po := Lib.hid Po
          clear u0 u1 u2 u3 u4 u5 u6 u7 u8
          obtain ⟨⟨u0, u1, u2, u3, u4, u5, u6, u7, u8⟩, _, _⟩ := blk9 Po.out.rb
          obtain ⟨⟨x0, x1, x2, x3⟩, ⟨y0, y1, y2, y3⟩, hxl⟩ := blk4 Po.out.x
          by_cases hlt : k < P
          case pos =>
            have hlt' : (k : Int) < (P : Int) := by omega
            have hlt2 : k < 2 * P := by omega
            obtain ⟨⟨z2, t0⟩, t1⟩ := Po.out.pitAt hlt2
            by_cases hkL : k = L
            · subst hkL
              have hne : ((k : Int) != (k : Int)) = false := by rw [bne, beq_self_eq_true]; rfl
              go_wp2_with fail
              go_roundw
              case rel => exact ⟨k + 1, by first | rfl | go_num, by omega, by omega, Po.out⟩
              case measure => first | (simp [intOf]; done) | (simp [intOf]; omega)
            · have hne : ((k : Int) != (L : Int)) = true := by rw [bne_iff_ne]; omega
              go_wp2_with fail
              go_roundw
              case rel => exact ⟨k + 1, by first | rfl | go_num, by omega, by omega, Po.out.pit HD.out hlt2 0⟩
              case measure => first | (simp [intOf]; done) | (simp [intOf]; omega)
          case neg =>
            have hlt' : ¬ (k : Int) < (P : Int) := by omega
            go_wp2_with fail
            go_meet
            exact ⟨rfl, Po.out⟩
      · go_wp2_with fail
        go_loopw [10] (fun v10 wr => ∃ k : Nat, v10 = .int .i64 k ∧ P ≤ k ∧ k ≤ 2 * P ∧ QS 25 28 28 2 w b A n c cs br qx g1 g2 (2 * P) #[.int .i64 (P : Int), .int .i64 s, .bool st, .bool sk, .bool re, .bool fe, .bool ag, .int .i64 ca, .int .i64 sl] #[.slice (some ⟨g1, 0, none⟩) (2 * P) c1, .slice (some ⟨g2, 0, none⟩) 2 2, .int .i64 (L : Int), .int .i64 lp] (M + 158) wr) (fun v10 _ => 2 * P - (intOf v10).toNat)
        case atStart => exact ⟨P, by first | rfl | go_num | (congr 1; omega), by omega, by omega, Pe.out⟩
        case round =>
          obtain ⟨k, rfl, hk0, hk, Po⟩ := hrel
          rename World => wo
          have Po := Lib.hid Po
          clear u0 u1 u2 u3 u4 u5 u6 u7 u8
          obtain ⟨⟨u0, u1, u2, u3, u4, u5, u6, u7, u8⟩, _, _⟩ := blk9 Po.out.rb
          obtain ⟨⟨x0, x1, x2, x3⟩, ⟨y0, y1, y2, y3⟩, hxl⟩ := blk4 Po.out.x
          by_cases hlt : k < 2 * P
          case pos =>
            have hlt' : (k : Int) < 2 * (P : Int) := by omega
            have hlt2 : k < 2 * P := by omega
            obtain ⟨⟨z2, t0⟩, t1⟩ := Po.out.pitAt hlt2
            by_cases hkL : k = L
            · subst hkL
              have hne : ((k : Int) != (k : Int)) = false := by rw [bne, beq_self_eq_true]; rfl
              go_wp2_with fail
              go_roundw
              case rel => exact ⟨k + 1, by first | rfl | go_num, by omega, by omega, Po.out⟩
              case measure => first | (simp [intOf]; done) | (simp [intOf]; omega)
            · have hne : ((k : Int) != (L : Int)) = true := by rw [bne_iff_ne]; omega
              go_wp2_with fail
              go_roundw
              case rel => exact ⟨k + 1, by first | rfl | go_num, by omega, by omega, Po.out.pit HD.out hlt2 0⟩
              case measure => first | (simp [intOf]; done) | (simp [intOf]; omega)
          case neg =>
            have hlt' : ¬ (k : Int) < 2 * (P : Int) := by omega
            go_wp2_with fail
            go_meet
            exact ⟨rfl, Po.out⟩
  case rest =>
  obtain ⟨rfl, Pf⟩ := hcut
  rename World => wf
  have Pf := Lib.hid Pf
  clear Pd
  go_wp2_with fail
  refine (pick_any b A n c (M + 158) cs 2 _ Pf.out.s hn (by omega) (by omega)).mono ?_
  rintro e wg ⟨player, rfl, -, -, -, S, gg⟩
  have Pg := Lib.hid (Pf.out.draw HD.out S gg)
  clear S gg Pf
  go_wp2_with fail
  refine (pick_any b A n c (M + 160) cs 20 _ Pg.out.s hn (by omega) (by omega)).mono ?_
  rintro e wh ⟨k, rfl, -, -, -, S, gg⟩
  have Ph := Lib.hid (Pg.out.draw HD.out S gg)
  clear S gg Pg
  go_upto_block 4 with fail
  go_cut [11] (fun s11 wx => ∃ (p s : Int) (st sk re fe ag : Bool) (ca sl : Int) (pl2 : Int) (d : Nat) (last laps : Int), s11 = .int .i64 pl2 ∧ d ≤ 1 ∧ QS 25 28 28 2 w b A n c cs br qx g1 g2 (2 * P) #[.int .i64 p, .int .i64 s, .bool st, .bool sk, .bool re, .bool fe, .bool ag, .int .i64 ca, .int .i64 sl] #[.slice (some ⟨g1, d, none⟩) (2 * P - d) (c1 - d), .slice (some ⟨g2, 0, none⟩) 2 2, .int .i64 last, .int .i64 laps] (M + 200) wx)
  case first =>
    obtain ⟨⟨x0, x1, x2, x3⟩, ⟨y0, y1, y2, y3⟩, hxl⟩ := blk4 Ph.out.x
    obtain ⟨⟨u0, u1, u2, u3, u4, u5, u6, u7, u8⟩, ⟨v0, v1, v2, v3, v4, v5, v6, v7, v8⟩, hul⟩ := blk9 Ph.out.rb
    by_cases k0 : k = 0
    · subst k0
      go_wp2_with fail
      refine (amongW b A n c (M + 162) cs [-1, -2, 2 * (P : Int)] 3 _ Ph.out.s hn (by omega) rfl (by omega) (by omega)).mono ?_
      rintro e wj ⟨v, rfl, -, S, gg⟩
      have Pj := Lib.hid (Ph.out.draw HD.out S gg)
      clear S gg x0 x1 x2 x3 y0 y1 y2 y3 hxl u0 u1 u2 u3 u4 u5 u6 u7 u8 v0 v1 v2 v3 v4 v5 v6 v7 v8 hul
      obtain ⟨⟨x0, x1, x2, x3⟩, ⟨y0, y1, y2, y3⟩, hxl⟩ := blk4 Pj.out.x
      obtain ⟨⟨u0, u1, u2, u3, u4, u5, u6, u7, u8⟩, ⟨v0, v1, v2, v3, v4, v5, v6, v7, v8⟩, hul⟩ := blk9 Pj.out.rb
      go_wp2_with fail
      go_meet
      exact ⟨_, _, _, _, _, _, _, _, _, _, 0, _, _, rfl, by omega, by have h := (Pj.out.setX HD.out 2 (.int .i64 v)).mono (show M + 162 + 2 ≤ M + 200 by omega); simp only [List.setIfInBounds_toArray, List.set_cons_zero, List.set_cons_succ] at h; exact h⟩
    · have q0 : (k == 0) = false := beq_eq_false_iff_ne.mpr k0
      by_cases k1 : k = 1
      · subst k1
        go_wp2_with fail
        refine (amongW b A n c (M + 162) cs [0, 100, 101] 3 _ Ph.out.s hn (by omega) rfl (by omega) (by omega)).mono ?_
        rintro e wj ⟨v, rfl, -, S, gg⟩
        have Pj := Lib.hid (Ph.out.draw HD.out S gg)
        clear S gg x0 x1 x2 x3 y0 y1 y2 y3 hxl u0 u1 u2 u3 u4 u5 u6 u7 u8 v0 v1 v2 v3 v4 v5 v6 v7 v8 hul
        obtain ⟨⟨x0, x1, x2, x3⟩, ⟨y0, y1, y2, y3⟩, hxl⟩ := blk4 Pj.out.x
        obtain ⟨⟨u0, u1, u2, u3, u4, u5, u6, u7, u8⟩, ⟨v0, v1, v2, v3, v4, v5, v6, v7, v8⟩, hul⟩ := blk9 Pj.out.rb
        go_wp2_with fail
        go_meet
        exact ⟨_, _, _, _, _, _, _, _, _, _, 0, _, _, rfl, by omega, by have h := (Pj.out.setX HD.out 3 (.int .i64 v)).mono (show M + 162 + 2 ≤ M + 200 by omega); simp only [List.setIfInBounds_toArray, List.set_cons_zero, List.set_cons_succ] at h; exact h⟩
      · have q1 : (k == 1) = false := beq_eq_false_iff_ne.mpr k1
        by_cases k2 : k = 2
        · subst k2
          go_wp2_with fail
          refine (amongW b A n c (M + 162) cs [-1, 2] 2 _ Ph.out.s hn (by omega) rfl (by omega) (by omega)).mono ?_
          rintro e wj ⟨v, rfl, -, S, gg⟩
          have Pj := Lib.hid (Ph.out.draw HD.out S gg)
          clear S gg x0 x1 x2 x3 y0 y1 y2 y3 hxl u0 u1 u2 u3 u4 u5 u6 u7 u8 v0 v1 v2 v3 v4 v5 v6 v7 v8 hul
          obtain ⟨⟨x0, x1, x2, x3⟩, ⟨y0, y1, y2, y3⟩, hxl⟩ := blk4 Pj.out.x
          obtain ⟨⟨u0, u1, u2, u3, u4, u5, u6, u7, u8⟩, ⟨v0, v1, v2, v3, v4, v5, v6, v7, v8⟩, hul⟩ := blk9 Pj.out.rb
          go_wp2_with fail
          go_meet
          exact ⟨_, _, _, _, _, _, _, _, _, _, 0, _, _, rfl, by omega, Pj.out.mono (by omega)⟩
        · have q2 : (k == 2) = false := beq_eq_false_iff_ne.mpr k2
          by_cases k3 : k = 3
          · subst k3
            go_wp2_with fail
            go_meet
            exact ⟨_, _, _, _, _, _, _, _, _, _, 1, _, _, rfl, by omega, by have h := (Ph.out.setX HD.out 0 (.slice (some ⟨g1, 1, none⟩) (2 * P - 1) (c1 - 1))).mono (show M + 162 ≤ M + 200 by omega); simp only [List.setIfInBounds_toArray, List.set_cons_zero, List.set_cons_succ] at h; exact h⟩
          · have q3 : (k == 3) = false := beq_eq_false_iff_ne.mpr k3
            by_cases k4 : k = 4
            · subst k4
              go_wp2_with fail
              refine (l02Bent_any b A n c (M + 162) cs _ Ph.out.s hn (by omega)).mono ?_
              rintro e wj ⟨p', s', st', sk', re', fe', ag', ca', sl', rfl, S, gg⟩
              have Pj := Lib.hid (Ph.out.draw HD.out S gg)
              clear S gg x0 x1 x2 x3 y0 y1 y2 y3 hxl u0 u1 u2 u3 u4 u5 u6 u7 u8 v0 v1 v2 v3 v4 v5 v6 v7 v8 hul
              obtain ⟨⟨x0, x1, x2, x3⟩, ⟨y0, y1, y2, y3⟩, hxl⟩ := blk4 Pj.out.x
              obtain ⟨⟨u0, u1, u2, u3, u4, u5, u6, u7, u8⟩, ⟨v0, v1, v2, v3, v4, v5, v6, v7, v8⟩, hul⟩ := blk9 Pj.out.rb
              go_wp2_with fail
              go_meet
              exact ⟨_, _, _, _, _, _, _, _, _, _, 0, _, _, rfl, by omega, (Pj.out.setR9 HD.out).mono (by omega)⟩
            · have q4 : (k == 4) = false := beq_eq_false_iff_ne.mpr k4
              go_wp2_with fail
              go_meet
              exact ⟨_, _, _, _, _, _, _, _, _, _, 0, _, _, rfl, by omega, Ph.out.mono (by omega)⟩
  case rest =>
  obtain ⟨p, s, st, sk, re, fe, ag, ca, sl, pl2, d, last, laps, rfl, hd, Pi⟩ := hcut
  rename World => wi
  have Pi := Lib.hid Pi
  clear Ph
  obtain ⟨⟨x0, x1, x2, x3⟩, _, hxl⟩ := blk4 Pi.out.x
  obtain ⟨⟨u0, u1, u2, u3, u4, u5, u6, u7, u8⟩, _, hul⟩ := blk9 Pi.out.rb
  obtain ⟨⟨r0, r1, r2, r3, r4, r5, r6, r7, r8⟩, ⟨f0, f1, f2, f3, f4, f5, f6, f7, f8⟩, hrl⟩ := blk9 Pi.out.r1
  obtain ⟨⟨s0, s1, s2, s3⟩, ⟨t0, t1, t2, t3⟩, hsl⟩ := blk4 Pi.out.r2
  have hne1 : w.heap.size ≠ w.heap.size + 1 := by omega
  have hne2 : w.heap.size + 1 ≠ w.heap.size := by omega
  have hne3 : br ≠ w.heap.size := by have := HD.out.b1; omega
  have hne4 : br ≠ w.heap.size + 1 := by have := HD.out.b1; omega
  have hne5 : qx ≠ w.heap.size := by have := HD.out.b2; omega
  have hne6 : qx ≠ w.heap.size + 1 := by have := HD.out.b2; omega
  have hng11 : g1 ≠ w.heap.size := by have := HD.out.b3; omega
  have hng12 : g1 ≠ w.heap.size + 1 := by have := HD.out.b3; omega
  have hng21 : g2 ≠ w.heap.size := by have := HD.out.b4; omega
  have hng22 : g2 ≠ w.heap.size + 1 := by have := HD.out.b4; omega
  obtain ⟨za, Oa⟩ := Pi.out.o1
  obtain ⟨zb, Ob⟩ := Pi.out.o2
  have HOa := Lib.hid Oa
  have HOb := Lib.hid Ob
  clear Oa Ob
  have HST31 : Hid (Blk wi.drew br 25 #[.int .i64 p, .int .i64 s, .bool st, .bool sk, .bool re, .bool fe, .bool ag, .int .i64 ca, .int .i64 sl] ∧ Blk wi.drew qx 28 #[.slice (some ⟨g1, d, none⟩) (2 * P - d) (c1 - d), .slice (some ⟨g2, 0, none⟩) 2 2, .int .i64 last, .int .i64 laps]) := ⟨Pi.out.rb, Pi.out.x⟩
  go_wp2_with fail
  refine wp_region_held_drew (S := (fun W => Blk W br 25 #[.int .i64 p, .int .i64 s, .bool st, .bool sk, .bool re, .bool fe, .bool ag, .int .i64 ca, .int .i64 sl] ∧ Blk W qx 28 #[.slice (some ⟨g1, d, none⟩) (2 * P - d) (c1 - d), .slice (some ⟨g2, 0, none⟩) 2 2, .int .i64 last, .int .i64 laps])) (by kernel_rfl) ?_ (fun hHeld => ?_)
  focus ((try dsimp only); (first | (with_reducible exact nine_keepD hHeld hne3 hne5) | (with_reducible exact four_keepD hHeld hne4 hne6) | (with_reducible exact HST31.out)))
  refine H_take (i := 0) (v := ?_) rfl (by kernel_rfl) (by kernel_rfl) (by kernel_rfl) (fun _ _ _ h => h) (by rfl) ?_ (by assumption) ?_
  rotate_left
  focus (intro w hSw; obtain ⟨X1, X2⟩ := hSw; obtain ⟨⟨c0, c1_, c2, c3, c4, c5, c6, c7, c8⟩, _, _⟩ := blk9 X1; obtain ⟨⟨d0, d1, d2, d3⟩, _, _⟩ := blk4 X2; go_simp; first | done | with_reducible rfl | (trace_state; fail))
  try simp only [Act.put, List.setIfInBounds_toArray, List.set_cons_zero, List.set_cons_succ]
  refine H_take (i := 1) (v := ?_) rfl (by kernel_rfl) (by kernel_rfl) (by kernel_rfl) (fun _ _ _ h => h) (by rfl) ?_ (by assumption) ?_
  rotate_left
  focus (intro w hSw; obtain ⟨X1, X2⟩ := hSw; obtain ⟨⟨c0, c1_, c2, c3, c4, c5, c6, c7, c8⟩, _, _⟩ := blk9 X1; obtain ⟨⟨d0, d1, d2, d3⟩, _, _⟩ := blk4 X2; go_simp; first | done | with_reducible rfl | (trace_state; fail))
  try simp only [Act.put, List.setIfInBounds_toArray, List.set_cons_zero, List.set_cons_succ]
  refine H_take (i := 2) (v := ?_) rfl (by kernel_rfl) (by kernel_rfl) (by kernel_rfl) (fun _ _ _ h => h) (by rfl) ?_ (by assumption) ?_
  rotate_left
  focus (intro w hSw; obtain ⟨X1, X2⟩ := hSw; obtain ⟨⟨c0, c1_, c2, c3, c4, c5, c6, c7, c8⟩, _, _⟩ := blk9 X1; obtain ⟨⟨d0, d1, d2, d3⟩, _, _⟩ := blk4 X2; go_simp; first | done | with_reducible rfl | (trace_state; fail))
  try simp only [Act.put, List.setIfInBounds_toArray, List.set_cons_zero, List.set_cons_succ]
  refine H_call (i := 3) rfl (by kernel_rfl) (fun K hK => ?_)
  go_simp
  skip
  refine hK.out _ _ ?_ (fun hHeld => ?_)
  focus ((try dsimp only); (first | (with_reducible exact nine_keepD hHeld hne3 hne5) | (with_reducible exact four_keepD hHeld hne4 hne6) | (with_reducible exact HST31.out)))
  clear hK K
  try simp only [Act.put, List.setIfInBounds_toArray, List.set_cons_zero, List.set_cons_succ]
  refine H_call (i := 4) rfl (by kernel_rfl) (fun K hK => ?_)
  go_simp
  skip
  refine hK.out _ _ ?_ (fun hHeld => ?_)
  focus ((try dsimp only); (first | (with_reducible exact nine_keepD hHeld hne3 hne5) | (with_reducible exact four_keepD hHeld hne4 hne6) | (with_reducible exact HST31.out)))
  clear hK K
  try simp only [Act.put, List.setIfInBounds_toArray, List.set_cons_zero, List.set_cons_succ]
  refine H_take (i := 5) (v := ?_) rfl (by kernel_rfl) (by kernel_rfl) (by kernel_rfl) (fun _ _ _ h => h) (by rfl) ?_ (by assumption) ?_
  rotate_left
  focus (intro w hSw; obtain ⟨X1, X2⟩ := hSw; obtain ⟨⟨c0, c1_, c2, c3, c4, c5, c6, c7, c8⟩, _, _⟩ := blk9 X1; obtain ⟨⟨d0, d1, d2, d3⟩, _, _⟩ := blk4 X2; go_simp; first | done | with_reducible rfl | (trace_state; fail))
  try simp only [Act.put, List.setIfInBounds_toArray, List.set_cons_zero, List.set_cons_succ]
  refine wpAnyH_done (by kernel_rfl) ?_ _
  go_wp2_with fail
  (try simp only [Exit.inBlock, Exit.then])
  clear r0 r1 r2 r3 r4 r5 r6 r7 r8 f0 f1 f2 f3 f4 f5 f6 f7 f8 s0 s1 s2 s3 t0 t1 t2 t3 x0 x1 x2 x3 u0 u1 u2 u3 u4 u5 u6 u7 u8 hHeld HST31
  have F1 : Blk (((((((((wi.setCell ⟨w.heap.size, 0, none⟩ (.int .i64 p)).setCell ⟨w.heap.size, 1, none⟩ (.int .i64 s)).setCell ⟨w.heap.size, 2, none⟩ (.bool st)).setCell ⟨w.heap.size, 3, none⟩ (.bool sk)).setCell ⟨w.heap.size, 4, none⟩ (.bool re)).setCell ⟨w.heap.size, 5, none⟩ (.bool fe)).setCell ⟨w.heap.size, 6, none⟩ (.bool ag)).setCell ⟨w.heap.size, 7, none⟩ (.int .i64 ca)).setCell ⟨w.heap.size, 8, none⟩ (.int .i64 sl)) w.heap.size 25 #[.int .i64 p, .int .i64 s, .bool st, .bool sk, .bool re, .bool fe, .bool ag, .int .i64 ca, .int .i64 sl] := st9_blk Pi.out.r1
  have F2 : Blk (((((((((((((wi.setCell ⟨w.heap.size, 0, none⟩ (.int .i64 p)).setCell ⟨w.heap.size, 1, none⟩ (.int .i64 s)).setCell ⟨w.heap.size, 2, none⟩ (.bool st)).setCell ⟨w.heap.size, 3, none⟩ (.bool sk)).setCell ⟨w.heap.size, 4, none⟩ (.bool re)).setCell ⟨w.heap.size, 5, none⟩ (.bool fe)).setCell ⟨w.heap.size, 6, none⟩ (.bool ag)).setCell ⟨w.heap.size, 7, none⟩ (.int .i64 ca)).setCell ⟨w.heap.size, 8, none⟩ (.int .i64 sl)).setCell ⟨w.heap.size + 1, 0, none⟩ (.slice (some ⟨g1, d, none⟩) (2 * P - d) (c1 - d))).setCell ⟨w.heap.size + 1, 1, none⟩ (.slice (some ⟨g2, 0, none⟩) 2 2)).setCell ⟨w.heap.size + 1, 2, none⟩ (.int .i64 last)).setCell ⟨w.heap.size + 1, 3, none⟩ (.int .i64 laps)) w.heap.size 25 #[.int .i64 p, .int .i64 s, .bool st, .bool sk, .bool re, .bool fe, .bool ag, .int .i64 ca, .int .i64 sl] := (blk_setF (blk_setF (blk_setF (blk_setF F1 hne1) hne1) hne1) hne1)
  have F3 : Blk (((((((((((((wi.setCell ⟨w.heap.size, 0, none⟩ (.int .i64 p)).setCell ⟨w.heap.size, 1, none⟩ (.int .i64 s)).setCell ⟨w.heap.size, 2, none⟩ (.bool st)).setCell ⟨w.heap.size, 3, none⟩ (.bool sk)).setCell ⟨w.heap.size, 4, none⟩ (.bool re)).setCell ⟨w.heap.size, 5, none⟩ (.bool fe)).setCell ⟨w.heap.size, 6, none⟩ (.bool ag)).setCell ⟨w.heap.size, 7, none⟩ (.int .i64 ca)).setCell ⟨w.heap.size, 8, none⟩ (.int .i64 sl)).setCell ⟨w.heap.size + 1, 0, none⟩ (.slice (some ⟨g1, d, none⟩) (2 * P - d) (c1 - d))).setCell ⟨w.heap.size + 1, 1, none⟩ (.slice (some ⟨g2, 0, none⟩) 2 2)).setCell ⟨w.heap.size + 1, 2, none⟩ (.int .i64 last)).setCell ⟨w.heap.size + 1, 3, none⟩ (.int .i64 laps)) (w.heap.size + 1) 28 #[.slice (some ⟨g1, d, none⟩) (2 * P - d) (c1 - d), .slice (some ⟨g2, 0, none⟩) 2 2, .int .i64 last, .int .i64 laps] := st4_blk (blk_setF (blk_setF (blk_setF (blk_setF (blk_setF (blk_setF (blk_setF (blk_setF (blk_setF Pi.out.r2 hne2) hne2) hne2) hne2) hne2) hne2) hne2) hne2) hne2)
  obtain ⟨wz, hwz⟩ : ∃ X_, X_ = (((((((((((((wi.setCell ⟨w.heap.size, 0, none⟩ (.int .i64 p)).setCell ⟨w.heap.size, 1, none⟩ (.int .i64 s)).setCell ⟨w.heap.size, 2, none⟩ (.bool st)).setCell ⟨w.heap.size, 3, none⟩ (.bool sk)).setCell ⟨w.heap.size, 4, none⟩ (.bool re)).setCell ⟨w.heap.size, 5, none⟩ (.bool fe)).setCell ⟨w.heap.size, 6, none⟩ (.bool ag)).setCell ⟨w.heap.size, 7, none⟩ (.int .i64 ca)).setCell ⟨w.heap.size, 8, none⟩ (.int .i64 sl)).setCell ⟨w.heap.size + 1, 0, none⟩ (.slice (some ⟨g1, d, none⟩) (2 * P - d) (c1 - d))).setCell ⟨w.heap.size + 1, 1, none⟩ (.slice (some ⟨g2, 0, none⟩) 2 2)).setCell ⟨w.heap.size + 1, 2, none⟩ (.int .i64 last)).setCell ⟨w.heap.size + 1, 3, none⟩ (.int .i64 laps)).drew := ⟨_, rfl⟩
  have E1 : Blk wz w.heap.size 25 #[.int .i64 p, .int .i64 s, .bool st, .bool sk, .bool re, .bool fe, .bool ag, .int .i64 ca, .int .i64 sl] := by rw [hwz]; exact F2.drewB
  have E2 : Blk wz (w.heap.size + 1) 28 #[.slice (some ⟨g1, d, none⟩) (2 * P - d) (c1 - d), .slice (some ⟨g2, 0, none⟩) 2 2, .int .i64 last, .int .i64 laps] := by rw [hwz]; exact F3.drewB
  have E3 : OwnV wz g1 2 1 (some ⟨g1, 0, none⟩) (2 * P) (za.map (Value.int .i64)) := by
    rw [hwz]
    (repeat (first | (with_reducible refine own_drF ?_) | (with_reducible refine own_setF ?_ hng11) | (with_reducible refine own_setF ?_ hng12))); with_reducible exact HOa.out
  have E4 : OwnV wz g2 2 1 (some ⟨g2, 0, none⟩) 2 (zb.map (Value.int .i64)) := by
    rw [hwz]
    (repeat (first | (with_reducible refine own_drF ?_) | (with_reducible refine own_setF ?_ hng21) | (with_reducible refine own_setF ?_ hng22))); with_reducible exact HOb.out
  have hsb1 : w.heap.size ≠ b := by omega
  have hsb2 : w.heap.size + 1 ≠ b := by omega
  have hsa1 : ∀ b' off, A = some ⟨b', off, none⟩ → 0 < n → b' ≠ w.heap.size := fun b' off e h0 => by have := HD.out.ab b' off e h0; omega
  have hsa2 : ∀ b' off, A = some ⟨b', off, none⟩ → 0 < n → b' ≠ w.heap.size + 1 := fun b' off e h0 => by have := HD.out.ab b' off e h0; omega
  have E5 : Src wz b A n c (M + 200) cs := by
    rw [hwz]
    (repeat (first | (with_reducible refine src_drF ?_) | (with_reducible refine Src.set ?_ _ _ hsb1 hsa1) | (with_reducible refine Src.set ?_ _ _ hsb2 hsa2))); exact Pi.out.s
  have hgw1 : w.heap.size ≤ w.heap.size := Nat.le_refl _
  have hgw2 : w.heap.size ≤ w.heap.size + 1 := Nat.le_succ _
  have E6 : w.grownBy wz (some b) := by
    rw [hwz]
    (repeat (first | (with_reducible refine grown_drF ?_) | (with_reducible refine set_grown ?_ hgw1) | (with_reducible refine set_grown ?_ hgw2))); exact Pi.out.g
  have E1 := Lib.hid E1
  have E2 := Lib.hid E2
  have E3 := Lib.hid E3
  have E4 := Lib.hid E4
  have E5 := Lib.hid E5
  have E6 := Lib.hid E6
  rw [← hwz]
  clear hwz F1 F2 F3
  obtain ⟨⟨z0, z1, z2, z3, z4, z5, z6, z7, z8⟩, _, _⟩ := blk9 E1.out
  obtain ⟨⟨y0, y1, y2, y3⟩, _, _⟩ := blk4 E2.out
  refine bodyPost_ret (by simp [results, Try.results12, go_sem, z0, z1, z2, z3, z4, z5, z6, z7, z8, y0, y1, y2, y3]; try rfl) rfl ?_
  exact ⟨p, s, st, sk, re, fe, ag, ca, sl, _, _, _, _, _, za.drop d, zb, last, laps, pl2, rfl, by omega, by omega, by omega, own_from E3.out d (by omega), OwnV.sl E4.out, fun b' off e => by injection e with e; injection e with e _; have := HD.out.b3; omega, fun b' off e => by injection e with e; injection e with e _; have := HD.out.b4; omega, E5.out.mono (by omega), E6.out⟩
end Go.Proofs.Ytcfbihponecblaa
