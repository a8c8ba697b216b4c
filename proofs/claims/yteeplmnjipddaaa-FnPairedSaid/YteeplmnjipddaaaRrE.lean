/- Drawn meetings. Conditions: at most 2^20 bytes. -/
import Derived.Test.YteeplmnjipddaaaRrD
import Derived.Test.YteeplmnjipddaaaRrP
import Derived.Test.YteeplmnjipddaaaApp
namespace Go.Proofs.Yteeplmnjipddaaa
set_option linter.unusedSimpArgs false
set_option linter.unusedVariables false
open Go.RowKit Go.WideShapes

/-- Rounds within bounds. -/
theorem rr_inE {n k : Nat} (h0 : 2 ≤ n) (h1 : n ≤ 12) (hk : k < rdN n) : rrR (n : Int) (k : Int) = (rrS n k n, 0) := by
  have : okR (n : Int) (k : Int) = true := by
    rw [okR, inB_t (by omega) (by omega), Int.toNat_natCast, inB_t (by omega) (by omega)]; rfl
  rw [rrR, if_pos this, Int.toNat_natCast, Int.toNat_natCast]
/-- A list of meetings of the call's own beside the source. -/
structure MR (t : TypeId) (w wr : World) (b : Nat) (A : Option Addr) (n c M : Nat) (cs : List Int) (v : Value) (j : Nat) (zs : List Int) : Prop where
  src : Src wr b A n c M cs
  row : wr.ownsRow w.heap.size t 2 v j (zs.map (Value.int .i64))
  gr : w.grownBy wr (some b)
theorem grown_belE {w wr w' : World} {row : Option Nat} (h : w.grownBy wr row) (hb : Below wr.heap.size wr w') : w.grownBy w' row :=
  ⟨hb.os.trans h.os, hb.tape.trans h.tape, hb.output.trans h.output, Nat.le_trans h.size hb.size, fun k hk hne => (hb.block k (Nat.lt_of_lt_of_le hk h.size)).trans (h.block k hk hne)⟩
section
variable {t : TypeId} {w wr w' : World} {b : Nat} {A : Option Addr} {n c M M' : Nat} {cs : List Int} {v v' : Value} {j j' : Nat} {zs ys : List Int}
theorem MR.later (h : MR t w wr b A n c M cs v j zs) (hb : Below wr.heap.size wr w') : MR t w w' b A n c M cs v j zs := ⟨h.src.later hb, row_below h.row hb, grown_belE h.gr hb⟩
theorem MR.alloc (h : MR t w wr b A n c M cs v j zs) (o : Obj) : MR t w (wr.alloc o) b A n c M cs v j zs := h.later (Below.alloc (Below.refl _ _) (Nat.le_refl _) o)
theorem MR.draw (h : MR t w wr b A n c M cs v j zs) (hb : b < w.heap.size) (hs : Src w' b A n c M' cs) (hg : wr.grownBy w' (some b)) : MR t w w' b A n c M' cs v j zs :=
  ⟨hs, own_over h.row hg (by intro e; have := (h.row.lt b e).1; omega), grown_tr h.gr hg⟩
theorem MR.app (h : MR t w wr b A n c M cs v j zs) (hb : b < w.heap.size) (hab : ∀ b' off, A = some ⟨b', off, none⟩ → 0 < n → b' < w.heap.size) (hown : w'.ownsRow w.heap.size t 2 v' j' (zs.map (Value.int .i64) ++ ys.map (Value.int .i64))) (hg : wr.grownBy w' v.ownBlock) : MR t w w' b A n c M cs v' j' (zs ++ ys) :=
  ⟨h.src.over hg (by intro e; have := (h.row.lt b e).1; omega) (fun b' off e hn e2 => by have := (h.row.lt b' e2).1; have := hab b' off e hn; omega),
   by rw [List.map_append]; exact hown,
   ⟨hg.os.trans h.gr.os, hg.tape.trans h.gr.tape, hg.output.trans h.gr.output, Nat.le_trans h.gr.size hg.size, fun q hq hne => (hg.block q (Nat.lt_of_lt_of_le hq h.gr.size) (fun e => by have := (h.row.lt q e.symm).1; omega)).trans (h.gr.block q hq hne)⟩⟩
theorem MR.mono (h : MR t w wr b A n c M cs v j zs) (hM : M ≤ M') : MR t w wr b A n c M' cs v j zs := ⟨h.src.mono hM, h.row, h.gr⟩
end
def MetP (t : TypeId) (b : Nat) (A : Option Addr) (n c M : Nat) (cs : List Int) (B : Nat) (w : World) (e : Ending) (w' : World) : Prop :=
  ∃ (v : Value) (j : Nat) (zs : List Int), e = .returned v ∧ j ≤ B ∧ MR t w w' b A n c M cs v j zs
set_option maxRecDepth 4000 in
set_option maxHeartbeats 4000000 in
theorem l24Draw_any (b : Nat) (A : Option Addr) (n c M : Nat) (cs : List Int) (N : Int) (h0 : 0 ≤ N) (h1 : N ≤ 13) (w : World) (h : Src w b A n c M cs) (hn : n ≤ 1048576) (hM : M ≤ 999990000) :
    Calls Try.prog 68 #[.pointer (some ⟨b, 0, none⟩), .int .i64 N] w (MetP 52 b A n c (M + 100) cs 144 w) := by
  obtain ⟨i0, ti, tz0, tz1, tz2⟩ := info_parts info_Meeting'
  have HI := Lib.hid (And.intro ti (And.intro tz0 (And.intro tz1 tz2)))
  clear ti tz0 tz1 tz2
  have hbl := h.lt
  have HAB := Lib.hid h.aBelow
  have HM0 : Hid (MR 52 w (w.alloc (.cells #[] 52)) b A n c M cs (.slice (some ⟨w.heap.size, 0, none⟩) 0 0) 0 []) := ⟨h.later (Below.alloc (Below.refl _ _) (Nat.le_refl _) _), World.ownsRow_made _ _ 0 (Nat.le_refl _) (Nat.zero_le _) rfl, grown_alloc (World.grownBy.refl _ _) _⟩
  clear h
  go_enter Try.func68, Try.ntmps68
  go_wp2_with fail
  refine (one_any b A n c M cs 2 _ HM0.out.src hn (by omega) (by omega)).mono ?_
  rintro e w1 ⟨q, rfl, S1, g1⟩
  have HM1 := Lib.hid (HM0.out.draw hbl S1 g1)
  clear S1 g1 HM0
  by_cases hq : q = true ∧ inB N 2 12 = true
  case pos =>
    obtain ⟨rfl, hin⟩ := hq
    obtain ⟨k, rfl, k1, k2⟩ := nat_of hin
    obtain ⟨R, hR⟩ : ∃ R, rdN k = R := ⟨_, rfl⟩
    have hRb := rdN_bd k1
    rw [hR] at hRb
    have HL : Hid (∀ j, j < R → (rrS k j k).length = k / 2 * 2) := fun j hj => rr_len k1 k2 (by rw [hR]; exact hj)
    have HRR : Hid (∀ j : Nat, j < R → rrR (k : Nat) (j : Nat) = (rrS k j k, 0)) := fun j hj => rr_inE k1 k2 (by rw [hR]; exact hj)
    have HRd := Lib.hid hR
    have hR12 : R ≤ 12 := by omega
    clear hR
    go_wp2_with fail
    refine (l24PlayersR_any (k : Nat) _).mono ?_
    rw [hin]
    rintro e w_ ⟨rfl, rfl⟩
    go_wp2_with fail
    refine (l24Rounds_any k _ k1 k2).mono ?_
    rw [HRd.out]
    rintro e w_ ⟨rfl, rfl⟩
    go_wp2_with fail
    refine (pick_any b A n c (M + 2) cs (R : Nat) _ HM1.out.src hn (by omega) (by omega)).mono ?_
    rintro e w2 ⟨x, rfl, hx0, hx1, hx2, S2, g2⟩
    have HM2 := Lib.hid (HM1.out.draw hbl S2 g2)
    have hxR : x < R := by
      by_cases h : 1 < (R : Int)
      · exact hx1 h
      · have := hx2 (by omega); omega
    obtain ⟨m0, rfl⟩ := Int.eq_ofNat_of_zero_le hx0
    have hm0 : m0 < R := by omega
    clear S2 g2 hx1 hx2 HM1
    go_wp2_with fail
    go_loopw [5, 6] (fun v i wr => ∃ (m j : Nat) (zs : List Int), m ≤ m0 ∧ i = .int .i64 m ∧ j = (m0 - m) * (k / 2) ∧ MR 52 w wr b A n c (M + 2 + 2) cs v j zs) (fun _ i _ => (intOf i).toNat)
    case atStart => exact ⟨m0, 0, [], Nat.le_refl _, rfl, by simp, HM2.out⟩
    case round =>
      obtain ⟨m, j, zs, hm, rfl, hj, hmr⟩ := hrel
      have HM := Lib.hid hmr
      have hgs := hmr.gr.size
      clear hmr
      have hj72 : j ≤ 72 := by rw [hj]; exact Nat.le_trans (Nat.mul_le_mul (show m0 - m ≤ 12 by omega) (show k / 2 ≤ 6 by omega)) (by omega)
      by_cases hmp : 0 < m
      · obtain ⟨p, rfl⟩ : ∃ p, m = p + 1 := ⟨m - 1, by omega⟩
        have hpi : (((p + 1 : Nat)) : Int) - 1 = (p : Nat) := by omega
        have hj2 : j + k / 2 = (m0 - p) * (k / 2) := by rw [hj, show m0 - p = (m0 - (p + 1)) + 1 by omega, Nat.add_mul, Nat.one_mul]
        obtain ⟨H, hH⟩ : ∃ H, k / 2 = H := ⟨_, rfl⟩
        rw [hH] at hj2
        have HJ2 := Lib.hid hj2
        have HJ := Lib.hid hj
        have hH6 : H ≤ 6 := by omega
        have HHH := Lib.hid hH
        clear hj2 hj hH
        go_wp2_with fail
        refine (sRoundRobin_any (k : Nat) (p : Nat) (rrS k p k) 0 (HRR.out p (by omega)) _).mono ?_
        rintro e w5 ⟨A5, g5, q5, cap5, rfl, hg5, o5, h5⟩
        have hq5 : q5 = H := by have e1 := o5.len; have e2 := HL.out p (by omega); have e3 := HHH.out; omega
        subst hq5
        have HSL := Lib.hid o5.sl
        have HM5 := Lib.hid (HM.out.later h5)
        have hz5 := HM5.out.gr.size
        clear o5 h5
        go_wp2_with (at_builtin; refine wpList_append_sl _ rfl _ _ 36 rfl w.heap.size 52 i0 _ 2 16 Try.underlying36 HI.out.1 HI.out.2.1 HI.out.2.2.1 HI.out.2.2.2 rfl (by decide) _ j (zs.map (Value.int .i64)) rfl HM5.out.row w5.heap.size A5 q5 cap5 ((rrS k p k).map (Value.int .i64)) rfl HSL.out ?c1 ?c2 ?c3 ?c4 ?_)
        case c1 => intro u hu; rw [List.mem_map] at hu; obtain ⟨b, _, rfl⟩ := hu; rfl
        case c2 => unfold maxLen; omega
        case c3 => omega
        case c4 => exact hz5
        intro v' w6 hown6 hg6 _
        have HM6 := Lib.hid (HM5.out.app hbl HAB.out hown6 hg6)
        clear hown6 hg6
        go_wp2_with fail
        go_roundw
        case rel => exact ⟨p, j + q5, zs ++ rrS k p k, by omega, by go_num, by rw [HHH.out]; exact HJ2.out, HM6.out⟩
        case measure => first | (simp [intOf]; done) | (simp [intOf]; omega)
      · obtain rfl : m = 0 := by omega
        clear hj
        go_wp2_with fail
        go_ret
        exact ⟨_, j, zs, rfl, by omega, HM.out.mono (by omega)⟩
  case neg =>
    have hqf : (q && inB N 2 12) = false := by rw [Bool.and_eq_false_iff]; cases q; exact Or.inl rfl; right; exact Bool.eq_false_iff.2 (fun h => hq ⟨rfl, h⟩)
    clear hq
    have X : Hid (∀ w_ (Q : Ending → World → Prop), Q (.returned (.bool (inB N 2 12))) w_ → Calls Try.prog 60 #[.int .i64 N] w_ Q) := by
      intro w_ Q hQ
      refine (l24PlayersR_any N _).mono ?_
      rintro e w2 ⟨rfl, rfl⟩
      exact hQ
    obtain ⟨iq, hiq⟩ : ∃ q, inB N 2 12 = q := ⟨_, rfl⟩
    rw [hiq] at hqf X
    clear hiq
    have hmain : Hid (∀ K : Prop, K → K) := fun K k => k
    cases q
    all_goals (first | (cases iq; skip; skip; (exact absurd hqf (by decide))) | skip)
    all_goals
      go_wp2_with (go_at_call 60; (with_reducible refine X.out _ _ ?_))
      refine (pick_any b A n c (M + 2) cs 12 _ HM1.out.src hn (by omega) (by omega)).mono ?_
      rintro e w2 ⟨x, rfl, hx0, hx1, -, S2, g2⟩
      have hx2 := hx1 (by omega)
      have HM2 := Lib.hid (HM1.out.draw hbl S2 g2)
      obtain ⟨m0, rfl⟩ := Int.eq_ofNat_of_zero_le hx0
      have hm0 : m0 < 12 := by omega
      clear S2 g2 hx1
      go_wp2_with fail
      go_loopw [5, 9] (fun v i wr => ∃ (m j : Nat) (zs : List Int), m ≤ m0 ∧ i = .int .i64 m ∧ j + m = m0 ∧ MR 52 w wr b A n c (M + 4 + 4 * j) cs v j zs) (fun _ i _ => (intOf i).toNat)
      case atStart => exact ⟨m0, 0, [], Nat.le_refl _, rfl, by omega, HM2.out⟩
      case round =>
        obtain ⟨m, j, zs, hm, rfl, hj, hmr⟩ := hrel
        have HM := Lib.hid hmr
        have hgs := hmr.gr.size
        clear hmr
        by_cases hmp : 0 < m ∧ 1 < N
        · obtain ⟨hm1, hN1⟩ := hmp
          obtain ⟨p, rfl⟩ : ∃ p, m = p + 1 := ⟨m - 1, by omega⟩
          go_wp2_with fail
          refine (pick_any b A n c (M + 4 + 4 * j) cs N _ HM.out.src hn (by omega) (by omega)).mono ?_
          rintro e w3 ⟨a, rfl, ha0, ha1, -, S3, g3⟩
          have ha2 := ha1 hN1
          have HM3 := Lib.hid (HM.out.draw hbl S3 g3)
          clear S3 g3 ha1
          go_wp2_with fail
          refine (pick_any b A n c (M + 4 + 4 * j + 2) cs (N - 1) _ HM3.out.src hn (by omega) (by omega)).mono ?_
          rintro e w4 ⟨y, rfl, hy0, hy1, hy2, S4, g4⟩
          have hy3 : y ≤ 13 := by
            by_cases h : 1 < N - 1
            · have := hy1 h; omega
            · have := hy2 (by omega); omega
          have HM4 := Lib.hid ((HM3.out.draw hbl S4 g4).alloc (.cells #[.int .i64 a, .int .i64 ((a + 1 + y) % N)] 52))
          have hz4 := HM4.out.gr.size
          have hN0 : ¬ N = 0 := by omega
          clear S4 g4 hy1 hy2
          go_wp2_with (at_builtin; refine wpList_append_sl _ rfl _ _ 36 rfl w.heap.size 52 i0 _ 2 16 Try.underlying36 HI.out.1 HI.out.2.1 HI.out.2.2.1 HI.out.2.2.2 rfl (by decide) _ j (zs.map (Value.int .i64)) rfl HM4.out.row (w4.heap.size + 1) _ 1 1 [.int .i64 a, .int .i64 ((a + 1 + y) % N)] rfl (Sl.built (by simp) (by simp) rfl) ?c1 ?c2 ?c3 ?c4 ?_)
          case c1 => intro u hu; simp at hu; rcases hu with rfl | rfl <;> rfl
          case c2 => unfold maxLen; omega
          case c3 => omega
          case c4 => exact hz4
          intro v' w6 hown6 hg6 _
          have HM6 := Lib.hid (HM4.out.app (ys := [a, (a + 1 + y) % N]) hbl HAB.out hown6 hg6)
          clear hown6 hg6
          go_wp2_with fail
          go_roundw
          case rel => exact ⟨p, j + 1, _, by omega, by go_num, by omega, HM6.out.mono (by omega)⟩
          case measure => first | (simp [intOf]; done) | (simp [intOf]; omega)
        · have hcond : (decide (0 < (m : Int)) && decide (1 < N)) = false := by
            rw [Bool.and_eq_false_iff]
            by_cases h : 0 < m
            · right; exact decide_eq_false (fun h2 => hmp ⟨h, h2⟩)
            · left; exact decide_eq_false (by omega)
          clear hmp
          by_cases hm3 : 0 < m
          · have hN2 : ¬ 1 < N := by
              intro h
              rw [decide_eq_true (by omega : 0 < (m : Int)), decide_eq_true h] at hcond
              exact absurd hcond (by decide)
            clear hcond
            go_wp2_with fail
            go_ret
            exact ⟨_, j, zs, rfl, by omega, HM.out.mono (by omega)⟩
          · obtain rfl : m = 0 := by omega
            clear hcond
            go_wp2_with fail
            go_ret
            exact ⟨_, j, zs, rfl, by omega, HM.out.mono (by omega)⟩
end Go.Proofs.Yteeplmnjipddaaa
