/- Drawn matches. Conditions: at most 2^20 bytes. -/
import Derived.Test.YtlogcbiebpfmlaaRrG
import Derived.Test.YtlogcbiebpfmlaaMatchS
import Derived.Deep.RegionHeld3
namespace Go.Proofs.Ytlogcbiebpfmlaa
set_option linter.unusedSimpArgs false
set_option linter.unusedVariables false
open Go.RowKit Go.WideShapes

/-- A list of the call's own (values) beside the source. -/
structure MV (t : TypeId) (sz : Nat) (w wr : World) (b : Nat) (A : Option Addr) (n c M : Nat) (cs : List Int) (v : Value) (j : Nat) (vs : List Value) : Prop where
  src : Src wr b A n c M cs
  row : wr.ownsRow w.heap.size t sz v j vs
  gr : w.grownBy wr (some b)
section
variable {t : TypeId} {sz : Nat} {w wr w' : World} {b : Nat} {A : Option Addr} {n c M M' : Nat} {cs : List Int} {v v' : Value} {j j' : Nat} {vs ys : List Value}
theorem MV.later (h : MV t sz w wr b A n c M cs v j vs) (hb : Below wr.heap.size wr w') : MV t sz w w' b A n c M cs v j vs := ⟨h.src.later hb, row_below h.row hb, grown_bel h.gr hb⟩
theorem MV.alloc (h : MV t sz w wr b A n c M cs v j vs) (o : Obj) : MV t sz w (wr.alloc o) b A n c M cs v j vs := h.later (Below.alloc (Below.refl _ _) (Nat.le_refl _) o)
theorem MV.draw (h : MV t sz w wr b A n c M cs v j vs) (hb : b < w.heap.size) (hs : Src w' b A n c M' cs) (hg : wr.grownBy w' (some b)) : MV t sz w w' b A n c M' cs v j vs :=
  ⟨hs, own_over h.row hg (by intro e; have := (h.row.lt b e).1; omega), grown_tr h.gr hg⟩
theorem MV.app (h : MV t sz w wr b A n c M cs v j vs) (hb : b < w.heap.size) (hab : ∀ b' off, A = some ⟨b', off, none⟩ → 0 < n → b' < w.heap.size) (hown : w'.ownsRow w.heap.size t sz v' j' ys) (hg : wr.grownBy w' v.ownBlock) : MV t sz w w' b A n c M cs v' j' ys :=
  ⟨h.src.over hg (by intro e; have := (h.row.lt b e).1; omega) (fun b' off e hn e2 => by have := (h.row.lt b' e2).1; have := hab b' off e hn; omega),
   hown,
   ⟨hg.os.trans h.gr.os, hg.tape.trans h.gr.tape, hg.output.trans h.gr.output, Nat.le_trans h.gr.size hg.size, fun q hq hne => (hg.block q (Nat.lt_of_lt_of_le hq h.gr.size) (fun e => by have := (h.row.lt q e.symm).1; omega)).trans (h.gr.block q hq hne)⟩⟩
theorem MV.mono (h : MV t sz w wr b A n c M cs v j vs) (hM : M ≤ M') : MV t sz w wr b A n c M' cs v j vs := ⟨h.src.mono hM, h.row, h.gr⟩
end
theorem sl_grown {w wr : World} {B sz m b : Nat} {A : Option Addr} {vs : List Value} (hs : Sl w B sz A m vs) (hg : w.grownBy wr (some b)) (hne : ∀ b' off, A = some ⟨b', off, none⟩ → b' ≠ b) : Sl wr B sz A m vs := by
  refine ⟨hs.1, fun hn => ?_⟩
  obtain ⟨b', off, e, hb', hc⟩ := hs.2 hn
  exact ⟨b', off, e, hb', fun j u hu => hg.cell (hc j u hu) (by intro e2; injection e2 with e2; exact hne b' off e e2)⟩
def TwoC (g i j : Nat) (x y : Value) (W : World) : Prop := W.cell? ⟨g, i, none⟩ = some x ∧ W.cell? ⟨g, j, none⟩ = some y
theorem two_drew {g i j : Nat} {x y : Value} {W : World} (h : TwoC g i j x y W) : W.drew.cell? ⟨g, i, none⟩ = some x ∧ W.drew.cell? ⟨g, j, none⟩ = some y := h
theorem two_keep {g i j b : Nat} {x y : Value} {W W' : World} (h : W.cell? ⟨g, i, none⟩ = some x ∧ W.cell? ⟨g, j, none⟩ = some y) (hg : W.grownBy W' (some b)) (hne : g ≠ b) : W'.cell? ⟨g, i, none⟩ = some x ∧ W'.cell? ⟨g, j, none⟩ = some y := ⟨hg.cell h.1 (by intro e; injection e with e; exact hne e), hg.cell h.2 (by intro e; injection e with e; exact hne e)⟩
theorem two_grown {g i j : Nat} {x y : Value} {W W' : World} {row : Option Nat} (h : W.cell? ⟨g, i, none⟩ = some x ∧ W.cell? ⟨g, j, none⟩ = some y) (hg : W.grownBy W' row) (hne : some g ≠ row) : W'.cell? ⟨g, i, none⟩ = some x ∧ W'.cell? ⟨g, j, none⟩ = some y := ⟨hg.cell h.1 hne, hg.cell h.2 hne⟩
theorem two_alloc {g i j : Nat} {x y : Value} {W : World} (h : W.cell? ⟨g, i, none⟩ = some x ∧ W.cell? ⟨g, j, none⟩ = some y) (o : Obj) : (W.alloc o).cell? ⟨g, i, none⟩ = some x ∧ (W.alloc o).cell? ⟨g, j, none⟩ = some y :=
  two_grown h (grown_alloc (World.grownBy.refl _ none) o) (by simp)
theorem results_tmp4 {fn : Func} {t u v x : Tmp} (h : fn.results = #[.tmp t, .tmp u, .tmp v, .tmp x]) (tmps : Array Value) (P : Program) (w : World) :
    (results fn tmps).run P w = .ok (.tuple #[tmps.getD t undef, tmps.getD u undef, tmps.getD v undef, tmps.getD x undef]) w := by
  simp [results, h]
theorem TypMatch.snoc {vs : List Value} {j : Nat} (h : TypMatch vs j) (hl : vs.length = j * 4) (a b s : Int) (f : Bool) : TypMatch (vs ++ [.int .i64 a, .int .i64 b, .int .i64 s, .bool f]) (j + 1) := by
  intro k hk
  by_cases hkj : k < j
  · obtain ⟨x0, x1, x2, x3, e0, e1, e2, e3⟩ := h k hkj
    refine ⟨x0, x1, x2, x3, ?_, ?_, ?_, ?_⟩ <;> rw [List.getElem?_append_left (by omega)] <;> assumption
  · obtain rfl : k = j := by omega
    refine ⟨a, b, s, f, ?_, ?_, ?_, ?_⟩ <;> rw [List.getElem?_append_right (by omega)] <;> simp [hl]
theorem TypMatch.set2 {vs : List Value} {j : Nat} (h : TypMatch vs j) (s : Int) : TypMatch (vs.set 2 (.int .i64 s)) j := by
  intro k hk
  obtain ⟨x0, x1, x2, x3, e0, e1, e2, e3⟩ := h k hk
  by_cases hk0 : k = 0
  · subst hk0
    refine ⟨x0, x1, s, x3, ?_, ?_, ?_, ?_⟩
    · rw [List.getElem?_set_ne (by omega)]; exact e0
    · rw [List.getElem?_set_ne (by omega)]; exact e1
    · have hlt : 0 * 4 + 2 < vs.length := (List.getElem?_eq_some_iff.1 e2).1
      rw [List.getElem?_set_self (by omega)]
    · rw [List.getElem?_set_ne (by omega)]; exact e3
  · refine ⟨x0, x1, x2, x3, ?_, ?_, ?_, ?_⟩ <;> rw [List.getElem?_set_ne (by omega)] <;> assumption
def MatP (t : TypeId) (b : Nat) (A : Option Addr) (n c M : Nat) (cs : List Int) (B : Nat) (w : World) (e : Ending) (w' : World) : Prop :=
  ∃ (v : Value) (j : Nat) (vs : List Value), e = .returned v ∧ j ≤ B ∧ TypMatch vs j ∧ MV t 4 w w' b A n c M cs v j vs
theorem info_MatchT : (Try.prog.info? 38).map (fun i => (i.zero, i.size, i.bytes)) = some (some (.agg #[Value.int .i64 0, .int .i64 0, .int .i64 0, .bool false]), 4, 32) := by kernel_rfl
set_option maxRecDepth 4000 in
set_option maxHeartbeats 4000000 in
theorem l26Draw_any (b : Nat) (A : Option Addr) (n c M : Nat) (cs : List Int) (N : Int) (h0 : 0 ≤ N) (h1 : N ≤ 13) (w : World) (h : Src w b A n c M cs) (hn : n ≤ 1048576) (hM : M ≤ 999970000) :
    Calls Try.prog 24 #[.pointer (some ⟨b, 0, none⟩), .int .i64 N] w (MatP 38 b A n c (M + 2000) cs 160 w) := by
  obtain ⟨i0, ti, tz0, tz1, tz2⟩ := info_parts info_MatchT
  have HI := Lib.hid (And.intro ti (And.intro tz0 (And.intro tz1 tz2)))
  clear ti tz0 tz1 tz2
  have hbl := h.lt
  have HAB := Lib.hid h.aBelow
  have HS := Lib.hid h
  clear h
  go_enter Try.func24, Try.ntmps24
  go_wp2_with fail
  refine (l24Bent_any b A n c M cs N h0 h1 _ HS.out hn (by omega)).mono ?_
  rintro e w1 ⟨lv, m, zs, rfl, hm, hmr⟩
  have HG1 := Lib.hid hmr.gr
  have HS1 := Lib.hid hmr.src
  have hrow := hmr.row
  obtain ⟨A1, g1, cap1, rfl, hg1, hnc, hcm, ho⟩ := own_of_row hrow
  have SL := Lib.hid ho.sl
  have hoo := Lib.hid ho.2
  have hz1 := hmr.gr.size
  clear hmr hrow ho
  have hA1 : ∀ b' off, A1 = some ⟨b', off, none⟩ → b' ≠ b ∨ m = 0 := by
    intro b' off e
    by_cases h0 : 0 < m
    · left
      obtain ⟨e2, _⟩ := hoo.out h0
      rw [e] at e2
      injection e2 with e2
      injection e2 with e2
      omega
    · right; omega
  have HA1 := Lib.hid hA1
  clear hA1 hoo
  have HM1 : Hid (MV 38 4 w1 (w1.alloc (.cells #[] 38)) b A n c (M + 600 + 4 * 0) cs (.slice (some ⟨w1.heap.size, 0, none⟩) 0 0) 0 []) := ⟨HS1.out.later (Below.alloc (Below.refl _ _) (Nat.le_refl _) _), World.ownsRow_made _ _ 0 (Nat.le_refl _) (Nat.zero_le _) rfl, grown_alloc (World.grownBy.refl _ _) _⟩
  have hb1 : b < w1.heap.size := Nat.lt_of_lt_of_le hbl hz1
  have HAB1 : Hid (∀ b' off, A = some ⟨b', off, none⟩ → 0 < n → b' < w1.heap.size) := fun b' off e hn => Nat.lt_of_lt_of_le (HAB.out b' off e hn) hz1
  go_wp2_with fail
  go_loopw [6, 7] (fun v i wr => ∃ (j : Nat) (vs : List Value), j ≤ m ∧ i = .int .i64 j ∧ TypMatch vs j ∧ MV 38 4 w1 wr b A n c (M + 600 + 4 * j) cs v j vs) (fun _ i _ => m - (intOf i).toNat)
  case atStart => exact ⟨0, [], Nat.zero_le _, rfl, fun k hk => absurd hk (Nat.not_lt_zero _), HM1.out⟩
  case round =>
    obtain ⟨j, vs, hj, rfl, htm, hmv⟩ := hrel
    have HM := Lib.hid hmv
    have HT := Lib.hid htm
    have hgs := hmv.gr.size
    have hvl := hmv.row.1
    clear hmv htm
    by_cases hlt : j < m
    · have SLr := Lib.hid (sl_grown SL.out HM.out.gr (fun b' off e => (HA1.out b' off e).resolve_right (by omega)))
      obtain ⟨bb, off, rfl, hbb, hll, hcc⟩ := SLr.out.cellAt hlt
      have hbne : bb ≠ b := (HA1.out bb off rfl).resolve_right (by omega)
      have c0 := hcc 0 (by omega)
      have c1 := hcc 1 (by omega)
      rw [Nat.add_zero] at c0
      rw [← Nat.add_assoc] at c1
      obtain ⟨x, hx⟩ : ∃ x, zs.getD (j * 2) 0 = x := ⟨_, rfl⟩
      obtain ⟨y, hy⟩ : ∃ x, zs.getD (j * 2 + 1) 0 = x := ⟨_, rfl⟩
      rw [hx] at c0
      rw [hy] at c1
      have HMd := Lib.hid (HM.out.later (belowDrewN (Below.refl _ _) 1))
      clear hx hy hcc hll
      have hS0 : TwoC bb (off + j * 2) (off + j * 2 + 1) (.int .i64 x) (.int .i64 y) wr := ⟨c0, c1⟩
      have HMd : Hid (MV 38 4 w1 wr.drew b A n c (M + 600 + 4 * j) cs _ j vs) := HM.out.later (belowDrewN (Below.refl _ _) 1)
      have HOB := Lib.hid (HM.out.row.lt)
      clear c0 c1
      go_wp2_with fail
      go_region_held3 (fun W => W.cell? ⟨bb, off + j * 2, none⟩ = some (.int .i64 x) ∧ W.cell? ⟨bb, off + j * 2 + 1, none⟩ = some (.int .i64 y)) (first | (with_reducible exact two_drew hS0) | (with_reducible exact two_keep (by with_reducible assumption) (by with_reducible assumption) hbne) | (with_reducible exact two_alloc (by with_reducible assumption) _) | (with_reducible assumption) | (exact two_grown (by with_reducible assumption) (by with_reducible assumption) (by intro e; have := (HOB.out _ e.symm).1; omega))) (first
        | (go_at_call 23; (with_reducible refine Calls.mono (pick_any b A n c (M + 600 + 4 * j) cs 3 _ HMd.out.src hn (by omega) (by omega)) ?_); rintro e w4 ⟨p, rfl, hp0, hp1, -, S4, g4⟩; have HM4 := Lib.hid (HMd.out.draw hb1 S4 g4); clear S4 hp1)
        | (go_at_call 34; (with_reducible refine Calls.mono (one_any b A n c (M + 600 + 4 * j + 2) cs 6 _ HM4.out.src hn (by omega) (by omega)) ?_); rintro e w5 ⟨q, rfl, S5, g5⟩; have HM5 := Lib.hid ((HM4.out.draw hb1 S5 g5).alloc (.cells #[.int .i64 x, .int .i64 y, .int .i64 p, .bool q] 38)); have hz5 := HM5.out.gr.size; clear S5)
        | (refine step_append_sl _ rfl _ _ 24 rfl w1.heap.size 38 i0 _ 4 32 Try.underlying24 HI.out.1 HI.out.2.1 HI.out.2.2.1 HI.out.2.2.2 rfl (by decide) _ j vs rfl HM5.out.row (w5.heap.size + 1) _ 1 1 [.int .i64 x, .int .i64 y, .int .i64 p, .bool q] rfl (Sl.built (by simp) (by simp) rfl) (by intro u hu; simp at hu; rcases hu with rfl | rfl | rfl | rfl <;> rfl) (by unfold maxLen; omega) (by omega) hz5 ?_; intro v' w6 hown6 hg6 _))
      all_goals
        have HM6 := Lib.hid (HM5.out.app hb1 HAB1.out hown6 hg6)
        clear hown6 hg6 hS0
        go_wp2_with fail
        go_roundw
        case rel => exact ⟨j + 1, _, by omega, by go_num, HT.out.snoc hvl x y p q, HM6.out.mono (by omega)⟩
        case measure => first | (simp [intOf]; done) | (simp [intOf]; omega)
    · obtain rfl : m = j := by omega
      have HMw : Hid (MV 38 4 w wr b A n c (M + 600 + 4 * m) cs _ m vs) := ⟨HM.out.src, own_base HM.out.row hz1, grown_tr HG1.out HM.out.gr⟩
      have hgw := HMw.out.gr.size
      have hrow := HMw.out.row
      obtain ⟨A2, g2, cap2, rfl, hg2, hnc2, hcm2, ho2⟩ := own_of_row hrow
      by_cases hm0 : 0 < m
      · obtain ⟨rfl, _⟩ := ho2.2 hm0
        clear hrow ho2
        have hd : decide ((0 : Int) < (m : Nat)) = true := decide_eq_true (by omega)
        go_wp2_with fail
        refine (one_any b A n c (M + 600 + 4 * m) cs 24 _ HMw.out.src hn (by omega) (by omega)).mono ?_
        rintro e w3 ⟨q, rfl, S3, g3⟩
        have HM3 := Lib.hid (HMw.out.draw hbl S3 g3)
        clear S3 g3
        cases q
        case false =>
          go_wp2_with fail
          go_ret
          exact ⟨_, m, vs, rfl, by omega, HT.out, HM3.out.mono (by omega)⟩
        case true =>
          have HM4 := Lib.hid (HM3.out.alloc (.cells (([-1, 2, 3] : List Int).map (Value.int .i64)).toArray 2))
          have l3 := HM3.out.src.lt
          have HL : Hid (Sl (w3.alloc (.cells (([-1, 2, 3] : List Int).map (Value.int .i64)).toArray 2)) (w3.alloc (.cells (([-1, 2, 3] : List Int).map (Value.int .i64)).toArray 2)).heap.size 1 (some ⟨w3.heap.size, 0, none⟩) 3 (([-1, 2, 3] : List Int).map (Value.int .i64))) := Sl.built rfl (by simp) (by rfl)
          go_wp2_with fail
          refine (among_any b A n c (M + 600 + 4 * m + 2) cs w3.heap.size 3 3 [-1, 2, 3] _ HM4.out.src hn (by omega) HL.out (by omega) (by omega) (by omega)).mono ?_
          rintro e w4 ⟨sc, rfl, hsc, S4, g4⟩
          have HM5 := Lib.hid (HM4.out.draw hbl S4 g4)
          have hst := HM5.out.row.stored 2 (.int .i64 sc)
          have HM6 := Lib.hid (HM5.out.app hbl HAB.out hst.1 hst.2)
          clear S4 g4 hsc hst
          obtain ⟨x0, x1, x2, x3, e0, e1, e2, e3⟩ := HT.out 0 hm0
          have c2 := HM5.out.row.cellAt 2 (by omega)
          have f2 := HM5.out.row.frozenAt 2
          rw [show vs[2]? = some (.int .i64 x2) from e2] at c2
          have HT2 := Lib.hid (HT.out.set2 sc)
          clear e0 e1 e2 e3
          go_wp2_with fail
          go_ret
          exact ⟨_, m, _, rfl, by omega, HT2.out, HM6.out.mono (by omega)⟩
      · obtain rfl : m = 0 := by omega
        clear hrow ho2
        go_wp2_with fail
        go_ret
        exact ⟨_, 0, vs, rfl, by omega, HT.out, HMw.out.mono (by omega)⟩
def PlR (t : TypeId) (w : World) (e : Ending) (w' : World) : Prop := ∃ (N p : Int) (v : Value) (j : Nat) (vs : List Value), e = .returned (.tuple #[.int .i64 N, v, .int .i64 p]) ∧ 0 ≤ N ∧ N ≤ 13 ∧ j ≤ 160 ∧ TypMatch vs j ∧ w'.ownsRow w.heap.size t 4 v j vs ∧ Below w.heap.size w w'
set_option maxHeartbeats 2000000 in
theorem l26Player_any (A : Option Addr) (n c : Nat) (cs : List Int) (w : World) (hs : Sl w w.heap.size 1 A n (cs.map (Value.int .u8))) (hc : ∀ z ∈ cs, 0 ≤ z ∧ z ≤ 255) (hn : n ≤ 1048576) :
    Calls Try.prog 14 #[.slice A n c] w (PlR 38 w) := by
  have HS := Lib.hid hs
  have HC := Lib.hid hc
  clear hs hc
  go_enter Try.func14, Try.ntmps14
  go_wp2_with fail
  refine (l00From_any A n c cs w HS.out HC.out).mono ?_
  rintro e w1 ⟨b, rfl, hb, S1, hb1⟩
  have HS1 := Lib.hid S1
  have HB1 := Lib.hid hb1
  have z1 := hb1.size
  clear S1 hb1
  go_wp2_with fail
  refine (l24Number_any b A n c 0 cs _ HS1.out hn (by omega)).mono ?_
  rintro e w2 ⟨x, rfl, x0, x1, S2, g2⟩
  have HS2 := Lib.hid S2
  have HB2 := Lib.hid (below_src HB1.out g2 hb z1)
  have z2 := HB2.out.size
  clear S2 g2
  go_wp2_with fail
  refine (pick_any b A n c (0 + 4) cs (x + 1) _ HS2.out hn (by omega) (by omega)).mono ?_
  rintro e w3 ⟨y, rfl, hy0, hy1, hy3, S3, g3⟩
  have hy2 : y ≤ 14 := by
    by_cases h : 1 < x + 1
    · have := hy1 h; omega
    · have := hy3 (by omega); omega
  have HS3 := Lib.hid S3
  have HB3 := Lib.hid (below_src HB2.out g3 hb z2)
  have z3 := HB3.out.size
  clear S3 g3 hy1 hy3
  go_wp2_with fail
  refine (pick_any b A n c (0 + 4 + 2) cs (20) _ HS3.out hn (by omega) (by omega)).mono ?_
  rintro e w4 ⟨q, rfl, hq0, hq1, hq3, S4, g4⟩
  have hq2 := hq1 (by omega)
  have HS4 := Lib.hid S4
  have HB4 := Lib.hid (below_src HB3.out g4 hb z3)
  have z4 := HB4.out.size
  clear S4 g4 hq1 hq3
  go_wp2_with fail
  refine (l26Draw_any b A n c (0 + 4 + 2 + 2) cs x x0 x1 _ HS4.out hn (by omega)).mono ?_
  rintro e w5 ⟨v, j, vs, rfl, hj, ht, hm⟩
  have HM := Lib.hid hm
  have HT := Lib.hid ht
  have HB5 := Lib.hid (below_src HB4.out hm.gr hb z4)
  clear hm ht
  go_wp2_with fail
  go_ret3
  exact ⟨x, _, v, j, vs, rfl, x0, x1, hj, HT.out, own_base HM.out.row z4, HB5.out⟩
theorem DrawTiedWith_any (A : Option Addr) (n c : Nat) (cs : List Int) (w : World) (hs : Sl w w.heap.size 1 A n (cs.map (Value.int .u8))) (hc : ∀ z ∈ cs, 0 ≤ z ∧ z ≤ 255) (hn : n ≤ 1048576) :
    Calls Try.prog 5 #[.slice A n c] w (PlR 38 w) := by
  go_enter Try.func5, Try.ntmps5
  go_wp2_with fail
  refine (l26Player_any A n c cs w hs hc hn).mono ?_
  rintro e w3 ⟨x, p, v, j, vs, rfl, x0, x1, hj, ht, hown, hbl⟩
  have HO := Lib.hid hown
  have HB := Lib.hid hbl
  have HT := Lib.hid ht
  clear hown hbl ht
  go_wp2_with fail
  go_ret3
  exact ⟨x, p, v, j, vs, rfl, x0, x1, hj, HT.out, HO.out, HB.out⟩
def DsR (t : TypeId) (w : World) (e : Ending) (w' : World) : Prop := ∃ (N p q : Int) (v : Value) (j : Nat) (vs : List Value), e = .returned (.tuple #[.int .i64 N, v, .int .i64 p, .int .i64 q]) ∧ 0 ≤ N ∧ N ≤ 13 ∧ j ≤ 160 ∧ TypMatch vs j ∧ w'.ownsRow w.heap.size t 4 v j vs ∧ Below w.heap.size w w'
set_option maxHeartbeats 2000000 in
theorem DrawDirectScore_any (A : Option Addr) (n c : Nat) (cs : List Int) (w : World) (hs : Sl w w.heap.size 1 A n (cs.map (Value.int .u8))) (hc : ∀ z ∈ cs, 0 ≤ z ∧ z ≤ 255) (hn : n ≤ 1048576) :
    Calls Try.prog 8 #[.slice A n c] w (DsR 38 w) := by
  have HS := Lib.hid hs
  have HC := Lib.hid hc
  clear hs hc
  go_enter Try.func8, Try.ntmps8
  go_wp2_with fail
  refine (l00From_any A n c cs w HS.out HC.out).mono ?_
  rintro e w1 ⟨b, rfl, hb, S1, hb1⟩
  have HS1 := Lib.hid S1
  have HB1 := Lib.hid hb1
  have z1 := hb1.size
  clear S1 hb1
  go_wp2_with fail
  refine (l24Number_any b A n c 0 cs _ HS1.out hn (by omega)).mono ?_
  rintro e w2 ⟨x, rfl, x0, x1, S2, g2⟩
  have HS2 := Lib.hid S2
  have HB2 := Lib.hid (below_src HB1.out g2 hb z1)
  have z2 := HB2.out.size
  clear S2 g2
  go_wp2_with fail
  refine (pick_any b A n c (0 + 4) cs (x) _ HS2.out hn (by omega) (by omega)).mono ?_
  rintro e w3 ⟨r, rfl, hr0, hr1, hr3, S3, g3⟩
  have HS3 := Lib.hid S3
  have HB3 := Lib.hid (below_src HB2.out g3 hb z2)
  have z3 := HB3.out.size
  clear S3 g3 hr1 hr3
  go_wp2_with fail
  refine (pick_any b A n c (0 + 4 + 2) cs (x + 1) _ HS3.out hn (by omega) (by omega)).mono ?_
  rintro e w4 ⟨y, rfl, hy0, hy1, hy3, S4, g4⟩
  have hy2 : y ≤ 14 := by
    by_cases h : 1 < x + 1
    · have := hy1 h; omega
    · have := hy3 (by omega); omega
  have HS4 := Lib.hid S4
  have HB4 := Lib.hid (below_src HB3.out g4 hb z3)
  have z4 := HB4.out.size
  clear S4 g4 hy1 hy3
  go_wp2_with fail
  refine (pick_any b A n c (0 + 4 + 2 + 2) cs (20) _ HS4.out hn (by omega) (by omega)).mono ?_
  rintro e w5 ⟨q, rfl, hq0, hq1, hq3, S5, g5⟩
  have hq2 := hq1 (by omega)
  have HS5 := Lib.hid S5
  have HB5 := Lib.hid (below_src HB4.out g5 hb z4)
  have z5 := HB5.out.size
  clear S5 g5 hq1 hq3
  go_wp2_with fail
  refine (l26Draw_any b A n c (0 + 4 + 2 + 2 + 2) cs x x0 x1 _ HS5.out hn (by omega)).mono ?_
  rintro e w6 ⟨v, j, vs, rfl, hj, ht, hm⟩
  have HM := Lib.hid hm
  have HT := Lib.hid ht
  have HB6 := Lib.hid (below_src HB5.out hm.gr hb z5)
  clear hm ht
  go_wp2_with fail
  (try simp only [Exit.inBlock, Exit.then])
  refine bodyPost_ret (results_tmp4 rfl _ _ _) rfl ?_
  exact ⟨x, r, _, v, j, vs, rfl, x0, x1, hj, HT.out, own_base HM.out.row z5, HB6.out⟩
end Go.Proofs.Ytlogcbiebpfmlaa
