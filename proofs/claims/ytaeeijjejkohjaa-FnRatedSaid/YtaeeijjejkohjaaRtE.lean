/- Draws of a period and of a game. Conditions: at most 2^20 bytes. -/
import Derived.Test.YtaeeijjejkohjaaRtD
namespace Go.Proofs.Ytaeeijjejkohjaa
set_option linter.unusedSimpArgs false
set_option linter.unusedVariables false
open Go.RowKit Go.WideShapes Go.ChangeShapes

def RpD (t1 t2 : TypeId) (w : World) (e : Ending) (w' : World) : Prop := ∃ (v1 v2 : Value) (j1 j2 : Nat) (zs gs : List Int), e = .returned (.tuple #[v1, v2]) ∧ j1 ≤ 101 ∧ j2 ≤ 110 ∧ w'.ownsRow w.heap.size t1 2 v1 j1 (zs.map (Value.int .i64)) ∧ w'.ownsRow w.heap.size t2 3 v2 j2 (gs.map (Value.int .i64)) ∧ Below w.heap.size w w'
set_option maxRecDepth 4000 in
set_option maxHeartbeats 8000000 in
theorem DrawRatePeriod_any (A : Option Addr) (n c : Nat) (cs : List Int) (w : World) (hs : Sl w w.heap.size 1 A n (cs.map (Value.int .u8))) (hc : ∀ z ∈ cs, 0 ≤ z ∧ z ≤ 255) (hn : n ≤ 1048576) :
    Calls Try.prog 22 #[.slice A n c] w (RpD 24 53 w) := by
  obtain ⟨i0, hi, hz0, hz1, hz2⟩ := info_parts info_Outcome3
  have HI := Lib.hid (And.intro hi (And.intro hz0 (And.intro hz1 hz2)))
  clear hi hz0 hz1 hz2
  have HS := Lib.hid hs
  have HC := Lib.hid hc
  clear hs hc
  go_enter Try.func22, Try.ntmps22
  go_wp2_with fail
  refine (l00From_any A n c cs w HS.out HC.out).mono ?_
  rintro e w1 ⟨b, rfl, hb, S1, hb1⟩
  have HS1 := Lib.hid S1
  have HB1 := Lib.hid hb1
  have z1 := hb1.size
  have hb1l := S1.lt
  clear S1 hb1
  go_wp2_with fail
  refine (l25List_any b A n c 0 cs _ HS1.out hn (by omega)).mono ?_
  rintro e w2 ⟨lv, jl, zs, rfl, hjl, hm⟩
  have HL := Lib.hid hm
  have hz2 := hm.gr.size
  have HB2 := Lib.hid (below_src HB1.out hm.gr hb z1)
  have hrow := hm.row
  obtain ⟨A1, g1, cap1, rfl, hg1, hnc, hcm, ho⟩ := own_of_row hrow
  clear hm hrow ho
  have hb2 : b < w2.heap.size := by omega
  have HAB := Lib.hid HL.out.src.aBelow
  have HM2 : Hid (MV 53 3 w2 (w2.alloc (.cells #[] 53)) b A n c (0 + 100) cs (.slice (some ⟨w2.heap.size, 0, none⟩) 0 0) 0 []) := ⟨HL.out.src.later (Below.alloc (Below.refl _ _) (Nat.le_refl _) _), World.ownsRow_made _ _ 0 (Nat.le_refl _) (Nat.zero_le _) rfl, grown_alloc (World.grownBy.refl _ _) _⟩
  obtain ⟨N, hN⟩ : ∃ N : Int, (jl : Int) = N := ⟨_, rfl⟩
  have hN0 : 0 ≤ N ∧ N ≤ 101 := by omega
  have FIN : Hid (∀ (wr : World) (v : Value) (j : Nat) (gs : List Int) (M : Nat), MV 53 3 w2 wr b A n c M cs v j (gs.map (Value.int .i64)) → j ≤ 110 → RpD 24 53 w (.returned (.tuple #[.slice A1 jl cap1, v])) wr) := by
    intro wr v j gs M h hj
    refine ⟨_, v, jl, j, zs, gs, rfl, hjl, hj, own_baseM (own_over HL.out.row h.gr (by intro e; have := (HL.out.row.lt b e).1; omega)) z1, own_baseM h.row (Nat.le_trans z1 hz2), below_src HB2.out h.gr hb (Nat.le_trans z1 hz2)⟩
  go_wp2_with fail
  refine (pick_any b A n c (0 + 100) cs 10 _ HM2.out.src hn (by omega) (by omega)).mono ?_
  rintro e w3 ⟨x, rfl, hx0, hx1, -, S3, g3⟩
  have hx2 := hx1 (by omega)
  have HM3 := Lib.hid (HM2.out.draw hb2 S3 g3)
  obtain ⟨m0, rfl⟩ := Int.eq_ofNat_of_zero_le hx0
  have hm0 : m0 < 10 := by omega
  clear S3 g3 hx1 HM2
  clear hN
  go_wp2_with fail
  go_loopw [7, 8] (fun v i wr => ∃ (m j : Nat) (gs : List Int), m ≤ m0 ∧ i = .int .i64 m ∧ j + m = m0 ∧ MV 53 3 w2 wr b A n c (102 + 6 * j) cs v j (gs.map (Value.int .i64))) (fun _ i _ => (intOf i).toNat)
  case atStart => exact ⟨m0, 0, [], Nat.le_refl _, rfl, by omega, HM3.out.mono (by omega)⟩
  case round =>
    obtain ⟨m, j, gs, hm, rfl, hj, hmr⟩ := hrel
    have HM := Lib.hid hmr
    have hgs := hmr.gr.size
    clear hmr
    by_cases hmp : 0 < m ∧ 1 < N
    · obtain ⟨hm1, hN1⟩ := hmp
      obtain ⟨p, rfl⟩ : ∃ p, m = p + 1 := ⟨m - 1, by omega⟩
      go_wp2_with fail
      refine (pick_any b A n c (102 + 6 * j) cs N _ HM.out.src hn (by omega) (by omega)).mono ?_
      rintro e w4 ⟨a, rfl, ha0, ha1, -, S4, g4⟩
      have ha2 := ha1 hN1
      have HM4 := Lib.hid (HM.out.draw hb2 S4 g4)
      have HMd : Hid (MV 53 3 w2 w4.drew b A n c (102 + 6 * j + 2) cs _ j (gs.map (Value.int .i64))) := HM4.out.later (belowDrewN (Below.refl _ _) 1)
      have hNz : (N = 0) = False := eq_false (by omega)
      have hw1 : IntKind.i64.wrap (N - 1) = N - 1 := IntWalk.i64_in _ (by omega)
      have hw2 : IntKind.i64.wrap (a + 1) = a + 1 := IntWalk.i64_in _ (by omega)
      clear S4 g4 ha1
      go_wp2_with fail
      go_region_held3 (fun W => 0 ≤ W.heap.size) (exact Nat.zero_le _) (first
        | (go_at_call 47; (with_reducible refine Calls.mono (pick_any b A n c (102 + 6 * j + 2) cs (N - 1) _ HMd.out.src hn (by omega) (by omega)) ?_); rintro e w5 ⟨y, rfl, hy0, hy1, hy2, S5, g5⟩; have hy3 : y ≤ 101 := (by by_cases h : 1 < N - 1; (have := hy1 h; omega); (have := hy2 (by omega); omega)); have HM5 := Lib.hid (HMd.out.draw hb2 S5 g5); have hw3 : IntKind.i64.wrap (a + 1 + y) = a + 1 + y := IntWalk.i64_in _ (by omega); have hmd : (a + 1 + y).tmod N = (a + 1 + y) % N := Int.tmod_eq_emod_of_nonneg (by omega); have hme := Int.emod_nonneg (a + 1 + y) (show N ≠ 0 by omega); have hmf := Int.emod_lt_of_pos (a + 1 + y) (show 0 < N by omega); have hw4 : IntKind.i64.wrap ((a + 1 + y) % N) = (a + 1 + y) % N := IntWalk.i64_in _ (by omega); clear S5 g5 hy1 hy2)
        | (go_at_call 47; (with_reducible refine Calls.mono (pick_any b A n c (102 + 6 * j + 2 + 2) cs 3 _ HM5.out.src hn (by omega) (by omega)) ?_); rintro e w6 ⟨sc, rfl, hs0, hs1, -, S6, g6⟩; have hs2 := hs1 (by omega); have HM6 := Lib.hid ((HM5.out.draw hb2 S6 g6).alloc (.cells #[.int .i64 a, .int .i64 ((a + 1 + y) % N), .int .i64 sc] 53)); have hz6 := HM6.out.gr.size; clear S6 g6 hs1)
        | (refine step_append_sl _ rfl _ _ 44 rfl w2.heap.size 53 i0 _ 3 24 Try.underlying44 HI.out.1 HI.out.2.1 HI.out.2.2.1 HI.out.2.2.2 rfl (by decide) _ j (gs.map (Value.int .i64)) rfl HM6.out.row (w6.heap.size + 1) _ 1 1 [.int .i64 a, .int .i64 ((a + 1 + y) % N), .int .i64 sc] rfl (Sl.built (by simp) (by simp) rfl) (by intro u hu; simp at hu; rcases hu with rfl | rfl | rfl <;> rfl) (by unfold maxLen; omega) (by omega) hz6 ?_; intro v' w7 hown7 hg7 _))
      all_goals
        have HM7 := Lib.hid (HM6.out.app hb2 HAB.out hown7 hg7)
        clear hown7 hg7
        go_wp2_with fail
        go_roundw
        case rel => exact ⟨p, j + 1, gs ++ [a, (a + 1 + y) % N, sc], by omega, by go_num, by omega, by rw [List.map_append]; exact HM7.out.mono (by omega)⟩
        case measure => first | (simp [intOf]; done) | (simp [intOf]; omega)
    · have hcond : (decide (0 < (m : Int)) && decide (1 < N)) = false := by
        rw [Bool.and_eq_false_iff]
        by_cases h : 0 < m
        · right; exact decide_eq_false (fun h2 => hmp ⟨h, h2⟩)
        · left; exact decide_eq_false (by omega)
      clear hmp
      by_cases hm3 : 0 < m
      · have hN2 : ¬ 1 < N := by
          intro h
          rw [decide_eq_true (by omega : 0 < (m : Int)), decide_eq_true h] at hcond
          exact absurd hcond (by decide)
        clear hcond
        go_wp2_with fail
        refine (pick_any b A n c (102 + 6 * j) cs 24 _ HM.out.src hn (by omega) (by omega)).mono ?_
        rintro e w4 ⟨x, rfl, hx0, hx1, -, S4, g4⟩
        have HM4 := Lib.hid (HM.out.draw hb2 S4 g4)
        clear S4 g4 hx1
        by_cases q0 : x = 0
        · subst q0
          go_wp2_with fail
          refine (pick_any b A n c (102 + 6 * j + 2) cs 3 _ HM4.out.src hn (by omega) (by omega)).mono ?_
          rintro e w5 ⟨y, rfl, hy0, hy1, -, S5, g5⟩
          have hy2 := hy1 (by omega)
          have HM5 := Lib.hid ((HM4.out.draw hb2 S5 g5).alloc (.cells #[.int .i64 (y - 1), .int .i64 N, .int .i64 1] 53))
          have HM5z := HM5.out.gr.size
          clear S5 g5 hy1
          go_wp2_with (at_builtin; refine wpList_append_sl _ rfl _ _ 44 rfl w2.heap.size 53 i0 _ 3 24 Try.underlying44 HI.out.1 HI.out.2.1 HI.out.2.2.1 HI.out.2.2.2 rfl (by decide) _ j (gs.map (Value.int .i64)) rfl HM5.out.row (w5.heap.size + 1) _ 1 1 [.int .i64 (y - 1), .int .i64 N, .int .i64 1] rfl (Sl.built (by simp) (by simp) rfl) ?c1 ?c2 ?c3 ?c4 ?_)
          case c1 => intro u hu; simp at hu; first | (rcases hu with rfl | rfl | rfl <;> rfl) | (rcases hu with rfl | rfl <;> rfl) | (subst hu; rfl)
          case c2 => unfold maxLen; omega
          case c3 => omega
          case c4 => exact HM5z
          intro v' w6 hown6 hg6 _
          have HM6 := Lib.hid (HM5.out.app hb2 HAB.out hown6 hg6)
          clear hown6 hg6
          go_wp2_with fail
          go_ret2
          exact FIN.out _ _ (j + 1) (gs ++ [y - 1, N, 1]) _ (by rw [List.map_append]; exact HM6.out) (by omega)
        have hb0 : (x == 0) = false := by rw [beq_eq_false_iff_ne]; exact q0
        clear q0
        by_cases q1 : x = 1
        · subst q1
          clear hb0
          have HMa := Lib.hid (HM4.out.alloc (.cells (([-1, 3] : List Int).map (Value.int .i64)).toArray 2))
          have l4 := HM4.out.src.lt
          have HLl : Hid (Sl (w4.alloc (.cells (([-1, 3] : List Int).map (Value.int .i64)).toArray 2)) (w4.alloc (.cells (([-1, 3] : List Int).map (Value.int .i64)).toArray 2)).heap.size 1 (some ⟨w4.heap.size, 0, none⟩) 2 (([-1, 3] : List Int).map (Value.int .i64))) := Sl.built rfl (by simp) (by rfl)
          go_wp2_with fail
          refine (among_any b A n c (102 + 6 * j + 2) cs w4.heap.size 2 2 [-1, 3] _ HMa.out.src hn (by omega) HLl.out (by omega) (by omega) (by omega)).mono ?_
          rintro e w5 ⟨y, rfl, hy, S5, g5⟩
          have HM5 := Lib.hid ((HMa.out.draw hb2 S5 g5).alloc (.cells #[.int .i64 0, .int .i64 1, .int .i64 y] 53))
          have HM5z := HM5.out.gr.size
          clear S5 g5 hy
          go_wp2_with (at_builtin; refine wpList_append_sl _ rfl _ _ 44 rfl w2.heap.size 53 i0 _ 3 24 Try.underlying44 HI.out.1 HI.out.2.1 HI.out.2.2.1 HI.out.2.2.2 rfl (by decide) _ j (gs.map (Value.int .i64)) rfl HM5.out.row (w5.heap.size + 1) _ 1 1 [.int .i64 0, .int .i64 1, .int .i64 y] rfl (Sl.built (by simp) (by simp) rfl) ?c1 ?c2 ?c3 ?c4 ?_)
          case c1 => intro u hu; simp at hu; first | (rcases hu with rfl | rfl | rfl <;> rfl) | (rcases hu with rfl | rfl <;> rfl) | (subst hu; rfl)
          case c2 => unfold maxLen; omega
          case c3 => omega
          case c4 => exact HM5z
          intro v' w6 hown6 hg6 _
          have HM6 := Lib.hid (HM5.out.app hb2 HAB.out hown6 hg6)
          clear hown6 hg6
          go_wp2_with fail
          go_ret2
          exact FIN.out _ _ (j + 1) (gs ++ [0, 1, y]) _ (by rw [List.map_append]; exact HM6.out) (by omega)
        have hb1 : (x == 1) = false := by rw [beq_eq_false_iff_ne]; exact q1
        clear q1
        by_cases q2 : x = 2
        · subst q2
          clear hb0 hb1
          go_wp2_with fail
          go_loopw [7] (fun v wr => ∃ (k : Nat) (gs : List Int), k ≤ 102 ∧ MV 53 3 w2 wr b A n c (200 + 2 * k) cs v k (gs.map (Value.int .i64))) (fun v _ => 152 - vlenM v)
          case atStart => exact ⟨j, gs, by omega, HM4.out.mono (by omega)⟩
          case round =>
            obtain ⟨j, gs, hk, hmr⟩ := hrel
            have HM := Lib.hid hmr
            have hrow := hmr.row
            clear hmr
            obtain ⟨A', g, cap, rfl, _, hnc, hcm, _⟩ := own_of_row hrow
            clear hrow
            go_wp2_with fail
            refine (pick_any b A n c (200 + 2 * j) cs 2 _ HM.out.src hn (by omega) (by omega)).mono ?_
            rintro e w5 ⟨y, rfl, hy0, hy1, -, S5, g5⟩
            have hy2 := hy1 (by omega)
            have HM3 := Lib.hid (HM.out.draw hb2 S5 g5)
            clear S5 g5 hy1
            by_cases hlt : (j : Int) < 100 + y
            · have hd : decide ((j : Int) < 100 + y) = true := decide_eq_true hlt
              have HM5 := Lib.hid (HM3.out.alloc (.cells #[.int .i64 0, .int .i64 1, .int .i64 0] 53))
              have HM5z := HM5.out.gr.size
              go_wp2_with (at_builtin; refine wpList_append_sl _ rfl _ _ 44 rfl w2.heap.size 53 i0 _ 3 24 Try.underlying44 HI.out.1 HI.out.2.1 HI.out.2.2.1 HI.out.2.2.2 rfl (by decide) _ j (gs.map (Value.int .i64)) rfl HM5.out.row (w5.heap.size + 1) _ 1 1 [.int .i64 0, .int .i64 1, .int .i64 0] rfl (Sl.built (by simp) (by simp) rfl) ?c1 ?c2 ?c3 ?c4 ?_)
              case c1 => intro u hu; simp at hu; first | (rcases hu with rfl | rfl | rfl <;> rfl) | (rcases hu with rfl | rfl <;> rfl) | (subst hu; rfl)
              case c2 => unfold maxLen; omega
              case c3 => omega
              case c4 => exact HM5z
              intro v' w6 hown6 hg6 _
              have HM6 := Lib.hid (HM5.out.app hb2 HAB.out hown6 hg6)
              obtain ⟨A6, g6, cap6, rfl, _, _, _, _⟩ := own_of_row hown6
              clear hown6 hg6
              go_wp2_with fail
              go_roundw
              case rel => exact ⟨j + 1, gs ++ [0, 1, 0], by omega, by rw [List.map_append]; exact HM6.out.mono (by omega)⟩
              case measure => first | (simp [vlenM]; done) | (simp [vlenM]; omega)
            · have hd : decide ((j : Int) < 100 + y) = false := decide_eq_false hlt
              go_wp2_with fail
              go_ret2
              exact FIN.out _ _ j gs _ HM3.out (by omega)
        have hb2' : (x == 2) = false := by rw [beq_eq_false_iff_ne]; exact q2
        clear q2
        go_wp2_with fail
        go_ret2
        exact FIN.out _ _ j gs _ HM4.out (by omega)

      · obtain rfl : m = 0 := by omega
        clear hcond
        go_wp2_with fail
        refine (pick_any b A n c (102 + 6 * j) cs 24 _ HM.out.src hn (by omega) (by omega)).mono ?_
        rintro e w4 ⟨x, rfl, hx0, hx1, -, S4, g4⟩
        have HM4 := Lib.hid (HM.out.draw hb2 S4 g4)
        clear S4 g4 hx1
        by_cases q0 : x = 0
        · subst q0
          go_wp2_with fail
          refine (pick_any b A n c (102 + 6 * j + 2) cs 3 _ HM4.out.src hn (by omega) (by omega)).mono ?_
          rintro e w5 ⟨y, rfl, hy0, hy1, -, S5, g5⟩
          have hy2 := hy1 (by omega)
          have HM5 := Lib.hid ((HM4.out.draw hb2 S5 g5).alloc (.cells #[.int .i64 (y - 1), .int .i64 N, .int .i64 1] 53))
          have HM5z := HM5.out.gr.size
          clear S5 g5 hy1
          go_wp2_with (at_builtin; refine wpList_append_sl _ rfl _ _ 44 rfl w2.heap.size 53 i0 _ 3 24 Try.underlying44 HI.out.1 HI.out.2.1 HI.out.2.2.1 HI.out.2.2.2 rfl (by decide) _ j (gs.map (Value.int .i64)) rfl HM5.out.row (w5.heap.size + 1) _ 1 1 [.int .i64 (y - 1), .int .i64 N, .int .i64 1] rfl (Sl.built (by simp) (by simp) rfl) ?c1 ?c2 ?c3 ?c4 ?_)
          case c1 => intro u hu; simp at hu; first | (rcases hu with rfl | rfl | rfl <;> rfl) | (rcases hu with rfl | rfl <;> rfl) | (subst hu; rfl)
          case c2 => unfold maxLen; omega
          case c3 => omega
          case c4 => exact HM5z
          intro v' w6 hown6 hg6 _
          have HM6 := Lib.hid (HM5.out.app hb2 HAB.out hown6 hg6)
          clear hown6 hg6
          go_wp2_with fail
          go_ret2
          exact FIN.out _ _ (j + 1) (gs ++ [y - 1, N, 1]) _ (by rw [List.map_append]; exact HM6.out) (by omega)
        have hb0 : (x == 0) = false := by rw [beq_eq_false_iff_ne]; exact q0
        clear q0
        by_cases q1 : x = 1
        · subst q1
          clear hb0
          have HMa := Lib.hid (HM4.out.alloc (.cells (([-1, 3] : List Int).map (Value.int .i64)).toArray 2))
          have l4 := HM4.out.src.lt
          have HLl : Hid (Sl (w4.alloc (.cells (([-1, 3] : List Int).map (Value.int .i64)).toArray 2)) (w4.alloc (.cells (([-1, 3] : List Int).map (Value.int .i64)).toArray 2)).heap.size 1 (some ⟨w4.heap.size, 0, none⟩) 2 (([-1, 3] : List Int).map (Value.int .i64))) := Sl.built rfl (by simp) (by rfl)
          go_wp2_with fail
          refine (among_any b A n c (102 + 6 * j + 2) cs w4.heap.size 2 2 [-1, 3] _ HMa.out.src hn (by omega) HLl.out (by omega) (by omega) (by omega)).mono ?_
          rintro e w5 ⟨y, rfl, hy, S5, g5⟩
          have HM5 := Lib.hid ((HMa.out.draw hb2 S5 g5).alloc (.cells #[.int .i64 0, .int .i64 1, .int .i64 y] 53))
          have HM5z := HM5.out.gr.size
          clear S5 g5 hy
          go_wp2_with (at_builtin; refine wpList_append_sl _ rfl _ _ 44 rfl w2.heap.size 53 i0 _ 3 24 Try.underlying44 HI.out.1 HI.out.2.1 HI.out.2.2.1 HI.out.2.2.2 rfl (by decide) _ j (gs.map (Value.int .i64)) rfl HM5.out.row (w5.heap.size + 1) _ 1 1 [.int .i64 0, .int .i64 1, .int .i64 y] rfl (Sl.built (by simp) (by simp) rfl) ?c1 ?c2 ?c3 ?c4 ?_)
          case c1 => intro u hu; simp at hu; first | (rcases hu with rfl | rfl | rfl <;> rfl) | (rcases hu with rfl | rfl <;> rfl) | (subst hu; rfl)
          case c2 => unfold maxLen; omega
          case c3 => omega
          case c4 => exact HM5z
          intro v' w6 hown6 hg6 _
          have HM6 := Lib.hid (HM5.out.app hb2 HAB.out hown6 hg6)
          clear hown6 hg6
          go_wp2_with fail
          go_ret2
          exact FIN.out _ _ (j + 1) (gs ++ [0, 1, y]) _ (by rw [List.map_append]; exact HM6.out) (by omega)
        have hb1 : (x == 1) = false := by rw [beq_eq_false_iff_ne]; exact q1
        clear q1
        by_cases q2 : x = 2
        · subst q2
          clear hb0 hb1
          go_wp2_with fail
          go_loopw [7] (fun v wr => ∃ (k : Nat) (gs : List Int), k ≤ 102 ∧ MV 53 3 w2 wr b A n c (200 + 2 * k) cs v k (gs.map (Value.int .i64))) (fun v _ => 152 - vlenM v)
          case atStart => exact ⟨j, gs, by omega, HM4.out.mono (by omega)⟩
          case round =>
            obtain ⟨j, gs, hk, hmr⟩ := hrel
            have HM := Lib.hid hmr
            have hrow := hmr.row
            clear hmr
            obtain ⟨A', g, cap, rfl, _, hnc, hcm, _⟩ := own_of_row hrow
            clear hrow
            go_wp2_with fail
            refine (pick_any b A n c (200 + 2 * j) cs 2 _ HM.out.src hn (by omega) (by omega)).mono ?_
            rintro e w5 ⟨y, rfl, hy0, hy1, -, S5, g5⟩
            have hy2 := hy1 (by omega)
            have HM3 := Lib.hid (HM.out.draw hb2 S5 g5)
            clear S5 g5 hy1
            by_cases hlt : (j : Int) < 100 + y
            · have hd : decide ((j : Int) < 100 + y) = true := decide_eq_true hlt
              have HM5 := Lib.hid (HM3.out.alloc (.cells #[.int .i64 0, .int .i64 1, .int .i64 0] 53))
              have HM5z := HM5.out.gr.size
              go_wp2_with (at_builtin; refine wpList_append_sl _ rfl _ _ 44 rfl w2.heap.size 53 i0 _ 3 24 Try.underlying44 HI.out.1 HI.out.2.1 HI.out.2.2.1 HI.out.2.2.2 rfl (by decide) _ j (gs.map (Value.int .i64)) rfl HM5.out.row (w5.heap.size + 1) _ 1 1 [.int .i64 0, .int .i64 1, .int .i64 0] rfl (Sl.built (by simp) (by simp) rfl) ?c1 ?c2 ?c3 ?c4 ?_)
              case c1 => intro u hu; simp at hu; first | (rcases hu with rfl | rfl | rfl <;> rfl) | (rcases hu with rfl | rfl <;> rfl) | (subst hu; rfl)
              case c2 => unfold maxLen; omega
              case c3 => omega
              case c4 => exact HM5z
              intro v' w6 hown6 hg6 _
              have HM6 := Lib.hid (HM5.out.app hb2 HAB.out hown6 hg6)
              obtain ⟨A6, g6, cap6, rfl, _, _, _, _⟩ := own_of_row hown6
              clear hown6 hg6
              go_wp2_with fail
              go_roundw
              case rel => exact ⟨j + 1, gs ++ [0, 1, 0], by omega, by rw [List.map_append]; exact HM6.out.mono (by omega)⟩
              case measure => first | (simp [vlenM]; done) | (simp [vlenM]; omega)
            · have hd : decide ((j : Int) < 100 + y) = false := decide_eq_false hlt
              go_wp2_with fail
              go_ret2
              exact FIN.out _ _ j gs _ HM3.out (by omega)
        have hb2' : (x == 2) = false := by rw [beq_eq_false_iff_ne]; exact q2
        clear q2
        go_wp2_with fail
        go_ret2
        exact FIN.out _ _ j gs _ HM4.out (by omega)

end Go.Proofs.Ytaeeijjejkohjaa
