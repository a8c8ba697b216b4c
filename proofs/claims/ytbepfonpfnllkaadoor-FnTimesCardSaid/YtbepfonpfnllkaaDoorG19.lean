/- FnTimes: a drawn clock that is seldom not valid. Conditions: at most 2^20 bytes. -/
import Derived.Test.YtbepfonpfnllkaaDoorG18
namespace Go.Proofs.YtbepfonpfnllkaaDoor
set_option linter.unusedSimpArgs false
set_option linter.unusedVariables false
open Go.RowKit Go.WideShapes Go.ChangeShapes

/-- A clock's value for one or two players, its times in a block of one's own, and the source as it lies. -/
def BnQ (t : TypeId) (b : Nat) (A : Option Addr) (n c M : Nat) (cs : List Int) (w : World) (e : Ending) (w' : World) : Prop :=
  ∃ (A' : Option Addr) (g n' cp : Nat) (zs : List Int) (inc del pl si : Int) (ru fa : Bool), e = .returned (.agg #[.slice A' n' cp, .int .i64 inc, .int .i64 del, .int .i64 pl, .int .i64 si, .bool ru, .bool fa]) ∧ w.heap.size ≤ g ∧ 1 ≤ n' ∧ n' ≤ 2 ∧ n' ≤ cp ∧ OwnV w' g t 1 A' n' (zs.map (Value.int .i64)) ∧ Src w' b A n c (M + 110) cs ∧ w.grownBy w' (some b)
theorem c1_alloc {w : World} {p : Addr} {v : Value} {o : Obj} (h : w.cell? p = some v) : (w.alloc o).cell? p = some v := by
  obtain ⟨b, off, p3⟩ := p
  have hb : Below w.heap.size w (w.alloc o) := Below.alloc (Below.refl _ _) (Nat.le_refl _) _
  rcases Nat.lt_or_ge b w.heap.size with hlt | hge
  · exact (hb.cell (p := ⟨b, off, p3⟩) hlt).trans h
  · have e : w.heap[b]? = none := Array.getElem?_eq_none hge
    simp [World.cell?, e] at h
theorem c1_set {w : World} {q g o k : Nat} {v u : Value} (h : w.cell? ⟨q, k, none⟩ = some v) (hne : g ≠ q) : (w.setCell ⟨g, o, none⟩ u).cell? ⟨q, k, none⟩ = some v := (World.cell?_setCell_other _ _ _ _ (fun e => by injection e with e; omega)).trans h
theorem cell_over {w w' : World} {p : Addr} {row : Option Nat} (hg : w.grownBy w' row) (hlt : p.block < w.heap.size) (hne : row ≠ some p.block) : w'.cell? p = w.cell? p := by
  have hk := hg.block p.block hlt (fun e => hne e.symm)
  simp only [World.cell?, hk]
theorem own_one {w : World} {g : Nat} {t : TypeId} {A : Option Addr} {zs : List Int} (h : OwnV w g t 1 A 2 (zs.map (Value.int .i64))) : ∃ zs1 : List Int, OwnV w g t 1 A 1 (zs1.map (Value.int .i64)) := by
  have hl := h.len
  simp only [List.length_map] at hl
  obtain ⟨z0, z1, rfl⟩ := list2 (by omega : zs.length = 2)
  obtain ⟨hA, rest, hb⟩ := h.blk (by omega)
  exact ⟨[z0], rfl, fun _ => ⟨hA, .int .i64 z1 :: rest, by simpa using hb⟩⟩
theorem src_drF {w : World} {b n c M : Nat} {A : Option Addr} {zs : List Int} (h : Src w b A n c M zs) : Src w.drew b A n c M zs := src_dr h 1
theorem grown_drF {a w : World} {r : Option Nat} (h : a.grownBy w r) : a.grownBy w.drew r := ⟨h.os, h.tape, h.output, h.size, h.block⟩
theorem c1_allocD {w : World} {p : Addr} {v : Value} {o : Obj} (h : w.drew.cell? p = some v) : (w.alloc o).drew.cell? p = some v := c1_alloc (w := w) (o := o) h
theorem amongWD (b : Nat) (A : Option Addr) (n c M : Nat) (cs zs : List Int) (m : Nat) (w : World) (h : Src w b A n c M cs) (hn : n ≤ 1048576) (hM : M ≤ 999999998) (hm : zs.length = m) (h2 : 2 ≤ m) (h3 : m ≤ 1000) :
    Calls Tryd.prog 20 #[.pointer (some ⟨b, 0, none⟩), .slice (some ⟨w.heap.size, 0, none⟩) m m] (w.alloc (.cells (zs.map (Value.int .i64)).toArray 2)).drew (AmQ b A n c M cs zs w) := by
  have hl := h.lt
  refine (among_any b A n c M cs w.heap.size m m zs _ (src_drF (h.later (Below.alloc (Below.refl _ _) (Nat.le_refl _) _))) hn hM (Sl.drew (Sl.built (by simp [hm]) (by simp) (by simp [hm]))) (by omega) h2 h3).mono ?_
  rintro e w' ⟨x, rfl, hx, s, g⟩
  exact ⟨x, rfl, hx, s, grown_tr (grown_drF (grown_alloc (World.grownBy.refl _ _) _)) g⟩
set_option maxRecDepth 20000 in
set_option maxHeartbeats 4000000 in
theorem l23Bent_any (b : Nat) (A : Option Addr) (n c M : Nat) (cs : List Int) (w : World) (h : Src w b A n c M cs) (hn : n ≤ 1048576) (hM : M ≤ 999990000) :
    Calls Tryd.prog 33 #[.pointer (some ⟨b, 0, none⟩)] w (BnQ 2 b A n c M cs w) := by
  have hbl := h.lt
  have HAB := Lib.hid h.aBelow
  have R0 := Lib.hid (Blk.new w 33 #[.slice none 0 0, .int .i64 0, .int .i64 0, .int .i64 0, .int .i64 0, .bool false, .bool false])
  have HS0 := Lib.hid (h.later (Below.alloc (Below.refl _ _) (Nat.le_refl _) (.cells #[.slice none 0 0, .int .i64 0, .int .i64 0, .int .i64 0, .int .i64 0, .bool false, .bool false] 33)))
  have HG0 : Hid (w.grownBy (w.alloc (.cells #[.slice none 0 0, .int .i64 0, .int .i64 0, .int .i64 0, .int .i64 0, .bool false, .bool false] 33)) (some b)) := grown_alloc (World.grownBy.refl _ _) _
  clear h
  go_enter Tryd.func33, Tryd.ntmps33
  go_wp2_with fail
  refine (l23Draw_any b A n c M cs _ HS0.out hn (by omega)).mono ?_
  rintro e w1 ⟨A1, g1, cp1, zs1, inc, del, pl, si, ru, fa, rfl, hg1, hcp1, O1, S1, G1⟩
  obtain ⟨rfl, -, -⟩ := O1.blk (by omega)
  have hz0 : (w.alloc (.cells #[.slice none 0 0, .int .i64 0, .int .i64 0, .int .i64 0, .int .i64 0, .bool false, .bool false] 33)).heap.size = w.heap.size + 1 := by simp
  have hz1 := G1.size
  have HS1 := Lib.hid S1
  have HG1 := Lib.hid (grown_tr HG0.out G1)
  have R1 := Lib.hid (blk_over R0.out G1 (by intro e; injection e with e; omega))
  have HO1 := Lib.hid O1
  have hgl := O1.lt (by omega)
  clear O1 S1 G1 HS0 HG0 R0
  go_upto_region 2 with fail
  obtain ⟨w2, hw2⟩ : ∃ w2, w2 = w1.alloc (.cells #[.slice (some ⟨g1, 0, none⟩) 2 cp1, .int .i64 inc, .int .i64 del, .int .i64 pl, .int .i64 si, .bool ru, .bool fa] 33) := ⟨_, rfl⟩
  have N2 : Hid (Below w1.heap.size w1 w2) := by unfold Hid; rw [hw2]; exact Below.alloc (Below.refl _ _) (Nat.le_refl _) _
  have X2 : Hid (Blk w2 w1.heap.size 33 #[.slice (some ⟨g1, 0, none⟩) 2 cp1, .int .i64 inc, .int .i64 del, .int .i64 pl, .int .i64 si, .bool ru, .bool fa]) := by unfold Hid; rw [hw2]; exact Blk.new _ _ _
  rw [← hw2]
  clear hw2
  have HS2 := Lib.hid (HS1.out.later N2.out)
  have HG2 := Lib.hid (grown_far HG1.out N2.out)
  have R2 := Lib.hid (R1.out.later N2.out)
  have HO2 := Lib.hid (HO1.out.later N2.out)
  clear HS1 HG1 R1 HO1 N2
  go_wp2_with fail
  refine (pick_any b A n c (M + 100) cs 24 _ HS2.out hn (by omega) (by omega)).mono ?_
  rintro e w3 ⟨k, rfl, -, -, -, S3, g3⟩
  have HS3 := Lib.hid S3
  have HG3 := Lib.hid (grown_tr HG2.out g3)
  have R3 := Lib.hid (blk_over R2.out g3 (by intro e; injection e with e; omega))
  have X3 := Lib.hid (blk_over X2.out g3 (by intro e; injection e with e; omega))
  have HO3 := Lib.hid (HO2.out.apart g3 (fun _ => by omega))
  have hx3 := X3.out.lt
  have hne1 : g1 ≠ w1.heap.size := by omega
  have hne2 : g1 ≠ w.heap.size := by omega
  have hne3 : w1.heap.size ≠ w.heap.size := by omega
  have hne4 : w.heap.size ≠ w1.heap.size := by omega
  clear S3 g3 HS2 HG2 R2 X2 HO2
  by_cases k0 : k = 0
  · subst k0
    obtain ⟨⟨x0, x1, x2, x3, x4, x5, x6⟩, ⟨y0, y1, y2, y3, y4, y5, y6⟩, hxl⟩ := blk7 X3.out
    have HST : Hid (w3.drew.cell? ⟨w1.heap.size, 0, none⟩ = some (.slice (some ⟨g1, 0, none⟩) 2 cp1)) := x0
    obtain ⟨z0, z1, rfl⟩ := list2 (l := zs1) (by have := HO3.out.len; simpa using this)
    go_wp2_with fail
    have hgb : g1 ≠ b := by omega
    have hnb : some b ≠ some w1.heap.size := by intro e; injection e with e; omega
    refine wp_region_held_drew (S := (fun W => W.cell? ⟨w1.heap.size, 0, none⟩ = some (.slice (some ⟨g1, 0, none⟩) 2 cp1))) (by kernel_rfl) ?_ (fun hHeld => ?_)
    focus ((try dsimp only); (first | (with_reducible exact hk4) | (with_reducible exact HST.out) | (with_reducible exact c1_allocD HST.out) | (with_reducible exact c1_set hHeld hne1)))
    refine H_take (i := 0) (v := ?_) rfl (by kernel_rfl) (by kernel_rfl) (by kernel_rfl) (fun _ _ _ h => h) (by rfl) ?_ (by assumption) ?_
    rotate_left
    focus (intro w hSw; have c0 := hSw; go_simp; first | done | with_reducible rfl | (trace_state; fail))
    try simp only [Act.put, List.setIfInBounds_toArray, List.set_cons_zero, List.set_cons_succ]
    refine H_take (i := 1) (v := ?_) rfl (by kernel_rfl) (by kernel_rfl) (by kernel_rfl) (fun _ _ _ h => h) (by rfl) ?_ (by assumption) ?_
    rotate_left
    focus (intro w hSw; have c0 := hSw; go_simp; first | done | with_reducible rfl | (trace_state; fail))
    try simp only [Act.put, List.setIfInBounds_toArray, List.set_cons_zero, List.set_cons_succ]
    refine H_take (i := 2) (v := ?_) rfl (by kernel_rfl) (by kernel_rfl) (by kernel_rfl) (fun _ _ _ h => h) (by rfl) ?_ (by assumption) ?_
    rotate_left
    focus (intro w hSw; have c0 := hSw; go_simp; first | done | with_reducible rfl | (trace_state; fail))
    try simp only [Act.put, List.setIfInBounds_toArray, List.set_cons_zero, List.set_cons_succ]
    refine H_call (i := 3) rfl (by kernel_rfl) (fun K hK => ?_)
    go_simp
    skip
    refine hK.out _ _ ?_ (fun hHeld => ?_)
    focus ((try dsimp only); (first | (with_reducible exact hk4) | (with_reducible exact HST.out) | (with_reducible exact c1_allocD HST.out) | (with_reducible exact c1_set hHeld hne1)))
    clear hK K
    try simp only [Act.put, List.setIfInBounds_toArray, List.set_cons_zero, List.set_cons_succ]
    refine H_call (i := 4) rfl (by kernel_rfl) (fun K hK => ?_)
    go_simp
    (go_at_call 20; (refine Calls.mono (amongWD b A n c (M + 102) cs [-1, 0, 1, 36000000, 36000001] 5 _ HS3.out hn (by omega) rfl (by omega) (by omega)) ?_); rintro e w4 ⟨v, rfl, -, S4, g4⟩; have hk4 := (cell_over (p := ⟨w1.heap.size, 0, none⟩) g4 hx3 hnb).trans HST.out; have O4' := HO3.out.apart g4 (fun _ => hgb); obtain ⟨_, rest4, hk0⟩ := O4'.blk (by omega); have t0 := hk0.cell 0; have t1 := hk0.free 0; clear hk0 O4')
    refine hK.out _ _ ?_ (fun hHeld => ?_)
    focus ((try dsimp only); (first | (with_reducible exact hk4) | (with_reducible exact HST.out) | (with_reducible exact c1_allocD HST.out) | (with_reducible exact c1_set hHeld hne1)))
    clear hK K
    try simp only [Act.put, List.setIfInBounds_toArray, List.set_cons_zero, List.set_cons_succ]
    refine H_take (i := 5) (v := ?_) rfl (by kernel_rfl) (by kernel_rfl) (by kernel_rfl) (fun _ _ _ h => h) (by rfl) ?_ (by assumption) ?_
    rotate_left
    focus (intro w hSw; have c0 := hSw; go_simp; first | done | with_reducible rfl | (trace_state; fail))
    try simp only [Act.put, List.setIfInBounds_toArray, List.set_cons_zero, List.set_cons_succ]
    refine H_call (i := 6) rfl (by kernel_rfl) (fun K hK => ?_)
    go_simp
    skip
    refine hK.out _ _ ?_ (fun hHeld => ?_)
    focus ((try dsimp only); (first | (with_reducible exact hk4) | (with_reducible exact HST.out) | (with_reducible exact c1_allocD HST.out) | (with_reducible exact c1_set hHeld hne1)))
    clear hK K
    try simp only [Act.put, List.setIfInBounds_toArray, List.set_cons_zero, List.set_cons_succ]
    refine wpAnyH_done (by kernel_rfl) ?_ _
    have G4' := grown_tr HG3.out g4
    have HS4 := Lib.hid S4
    have HG4 := Lib.hid G4'
    have R4 := Lib.hid (blk_over R3.out g4 (by intro e; injection e with e; omega))
    have X4 := Lib.hid (blk_over X3.out g4 (by intro e; injection e with e; omega))
    have HO4 := Lib.hid (HO3.out.apart g4 (fun _ => by omega))
    obtain ⟨zs4, -, O5⟩ := own_set2 (x := v) (k := 0) rfl HO4.out (by omega)
    clear x0 x1 x2 x3 x4 x5 x6 y0 y1 y2 y3 y4 y5 y6 S4 G4' HST
    obtain ⟨⟨x0, x1, x2, x3, x4, x5, x6⟩, ⟨y0, y1, y2, y3, y4, y5, y6⟩, hxl⟩ := blk7 X4.out
    obtain ⟨⟨r0, r1, r2, r3, r4, r5, r6⟩, ⟨f0, f1, f2, f3, f4, f5, f6⟩, hrl⟩ := blk7 R4.out
    go_wp2_with fail
    (try simp only [Exit.inBlock, Exit.then])
    refine bodyPost_ret (by simp [results, Tryd.results33, go_sem, r0, r1, r2, r3, r4, r5, r6, f0, f1, f2, f3, f4, f5, f6, hne3, hne4]; try rfl) rfl ?_
    refine ⟨_, g1, 2, cp1, zs4, _, _, _, _, _, _, rfl, by omega, by omega, by omega, by omega, ?_, ?_, ?_⟩
    · exact st7_own (O5) hne2
    · exact (st7_src (HS4.out.set _ _ (by dsimp only; omega) (fun b' off e h0 => by have := HAB.out b' off e h0; dsimp only; omega)) (by omega) (fun b' off e h0 => by have := HAB.out b' off e h0; omega)).mono (by omega)
    · exact st7_grown (set_grown HG4.out (by dsimp only; omega)) (Nat.le_refl _)
  · have q0 : (k == 0) = false := beq_eq_false_iff_ne.mpr k0
    by_cases k1 : k = 1
    · subst k1
      obtain ⟨⟨x0, x1, x2, x3, x4, x5, x6⟩, ⟨y0, y1, y2, y3, y4, y5, y6⟩, hxl⟩ := blk7 X3.out
      go_wp2_with fail
      clear x0 x1 x2 x3 x4 x5 x6 y0 y1 y2 y3 y4 y5 y6
      refine (amongW b A n c (M + 102) cs [-1, 0, 1, 2] 4 _ HS3.out hn (by omega) rfl (by omega) (by omega)).mono ?_
      rintro e w4 ⟨v, rfl, -, S4, g4⟩
      have HS4 := Lib.hid S4
      have HG4 := Lib.hid (grown_tr HG3.out g4)
      have R4 := Lib.hid (blk_over R3.out g4 (by intro e; injection e with e; omega))
      have X4 := Lib.hid (blk_over X3.out g4 (by intro e; injection e with e; omega))
      have HO4 := Lib.hid (HO3.out.apart g4 (fun _ => by omega))
      clear S4 g4 HS3 HG3 R3 X3 HO3
      obtain ⟨⟨x0, x1, x2, x3, x4, x5, x6⟩, ⟨y0, y1, y2, y3, y4, y5, y6⟩, hxl⟩ := blk7 X4.out
      obtain ⟨⟨r0, r1, r2, r3, r4, r5, r6⟩, ⟨f0, f1, f2, f3, f4, f5, f6⟩, hrl⟩ := blk7 R4.out
      go_wp2_with fail
      (try simp only [Exit.inBlock, Exit.then])
      refine bodyPost_ret (by simp [results, Tryd.results33, go_sem, r0, r1, r2, r3, r4, r5, r6, f0, f1, f2, f3, f4, f5, f6, hne3, hne4]; try rfl) rfl ?_
      refine ⟨_, g1, 2, cp1, zs1, _, _, _, _, _, _, rfl, by omega, by omega, by omega, by omega, ?_, ?_, ?_⟩
      · exact st7_own (own_setF HO4.out hne1) hne2
      · exact (st7_src (HS4.out.set _ _ (by dsimp only; omega) (fun b' off e h0 => by have := HAB.out b' off e h0; dsimp only; omega)) (by omega) (fun b' off e h0 => by have := HAB.out b' off e h0; omega)).mono (by omega)
      · exact st7_grown (set_grown HG4.out (by dsimp only; omega)) (Nat.le_refl _)
    · have q1 : (k == 1) = false := beq_eq_false_iff_ne.mpr k1
      by_cases k2 : k = 2
      · subst k2
        obtain ⟨⟨x0, x1, x2, x3, x4, x5, x6⟩, ⟨y0, y1, y2, y3, y4, y5, y6⟩, hxl⟩ := blk7 X3.out
        go_wp2_with fail
        clear x0 x1 x2 x3 x4 x5 x6 y0 y1 y2 y3 y4 y5 y6
        refine (amongW b A n c (M + 102) cs [-1, 0, 36000000, 36000001] 4 _ HS3.out hn (by omega) rfl (by omega) (by omega)).mono ?_
        rintro e w4 ⟨v, rfl, -, S4, g4⟩
        have HS4 := Lib.hid S4
        have HG4 := Lib.hid (grown_tr HG3.out g4)
        have R4 := Lib.hid (blk_over R3.out g4 (by intro e; injection e with e; omega))
        have X4 := Lib.hid (blk_over X3.out g4 (by intro e; injection e with e; omega))
        have HO4 := Lib.hid (HO3.out.apart g4 (fun _ => by omega))
        clear S4 g4 HS3 HG3 R3 X3 HO3
        obtain ⟨⟨x0, x1, x2, x3, x4, x5, x6⟩, ⟨y0, y1, y2, y3, y4, y5, y6⟩, hxl⟩ := blk7 X4.out
        obtain ⟨⟨r0, r1, r2, r3, r4, r5, r6⟩, ⟨f0, f1, f2, f3, f4, f5, f6⟩, hrl⟩ := blk7 R4.out
        go_wp2_with fail
        (try simp only [Exit.inBlock, Exit.then])
        refine bodyPost_ret (by simp [results, Tryd.results33, go_sem, r0, r1, r2, r3, r4, r5, r6, f0, f1, f2, f3, f4, f5, f6, hne3, hne4]; try rfl) rfl ?_
        refine ⟨_, g1, 2, cp1, zs1, _, _, _, _, _, _, rfl, by omega, by omega, by omega, by omega, ?_, ?_, ?_⟩
        · exact st7_own (own_setF HO4.out hne1) hne2
        · exact (st7_src (HS4.out.set _ _ (by dsimp only; omega) (fun b' off e h0 => by have := HAB.out b' off e h0; dsimp only; omega)) (by omega) (fun b' off e h0 => by have := HAB.out b' off e h0; omega)).mono (by omega)
        · exact st7_grown (set_grown HG4.out (by dsimp only; omega)) (Nat.le_refl _)
      · have q2 : (k == 2) = false := beq_eq_false_iff_ne.mpr k2
        by_cases k3 : k = 3
        · subst k3
          obtain ⟨⟨x0, x1, x2, x3, x4, x5, x6⟩, ⟨y0, y1, y2, y3, y4, y5, y6⟩, hxl⟩ := blk7 X3.out
          obtain ⟨⟨r0, r1, r2, r3, r4, r5, r6⟩, ⟨f0, f1, f2, f3, f4, f5, f6⟩, hrl⟩ := blk7 R3.out
          go_wp2_with fail
          (try simp only [Exit.inBlock, Exit.then])
          refine bodyPost_ret (by simp [results, Tryd.results33, go_sem, r0, r1, r2, r3, r4, r5, r6, f0, f1, f2, f3, f4, f5, f6, hne3, hne4]; try rfl) rfl ?_
          refine ⟨_, g1, 2, cp1, zs1, _, _, _, _, _, _, rfl, by omega, by omega, by omega, by omega, ?_, ?_, ?_⟩
          · exact st7_own (own_setF HO3.out hne1) hne2
          · exact (st7_src (HS3.out.set _ _ (by dsimp only; omega) (fun b' off e h0 => by have := HAB.out b' off e h0; dsimp only; omega)) (by omega) (fun b' off e h0 => by have := HAB.out b' off e h0; omega)).mono (by omega)
          · exact st7_grown (set_grown HG3.out (by dsimp only; omega)) (Nat.le_refl _)
        · have q3 : (k == 3) = false := beq_eq_false_iff_ne.mpr k3
          by_cases k4 : k = 4
          · subst k4
            obtain ⟨⟨x0, x1, x2, x3, x4, x5, x6⟩, ⟨y0, y1, y2, y3, y4, y5, y6⟩, hxl⟩ := blk7 X3.out
            go_wp2_with fail
            clear x0 x1 x2 x3 x4 x5 x6 y0 y1 y2 y3 y4 y5 y6
            refine (amongW b A n c (M + 102) cs [-1, 36000000, 36000001] 3 _ HS3.out hn (by omega) rfl (by omega) (by omega)).mono ?_
            rintro e w4 ⟨v, rfl, -, S4, g4⟩
            have HS4 := Lib.hid S4
            have HG4 := Lib.hid (grown_tr HG3.out g4)
            have R4 := Lib.hid (blk_over R3.out g4 (by intro e; injection e with e; omega))
            have X4 := Lib.hid (blk_over X3.out g4 (by intro e; injection e with e; omega))
            have HO4 := Lib.hid (HO3.out.apart g4 (fun _ => by omega))
            clear S4 g4 HS3 HG3 R3 X3 HO3
            obtain ⟨⟨x0, x1, x2, x3, x4, x5, x6⟩, ⟨y0, y1, y2, y3, y4, y5, y6⟩, hxl⟩ := blk7 X4.out
            obtain ⟨⟨r0, r1, r2, r3, r4, r5, r6⟩, ⟨f0, f1, f2, f3, f4, f5, f6⟩, hrl⟩ := blk7 R4.out
            go_wp2_with fail
            (try simp only [Exit.inBlock, Exit.then])
            refine bodyPost_ret (by simp [results, Tryd.results33, go_sem, r0, r1, r2, r3, r4, r5, r6, f0, f1, f2, f3, f4, f5, f6, hne3, hne4]; try rfl) rfl ?_
            refine ⟨_, g1, 2, cp1, zs1, _, _, _, _, _, _, rfl, by omega, by omega, by omega, by omega, ?_, ?_, ?_⟩
            · exact st7_own (own_setF HO4.out hne1) hne2
            · exact (st7_src (HS4.out.set _ _ (by dsimp only; omega) (fun b' off e h0 => by have := HAB.out b' off e h0; dsimp only; omega)) (by omega) (fun b' off e h0 => by have := HAB.out b' off e h0; omega)).mono (by omega)
            · exact st7_grown (set_grown HG4.out (by dsimp only; omega)) (Nat.le_refl _)
          · have q4 : (k == 4) = false := beq_eq_false_iff_ne.mpr k4
            by_cases k5 : k = 5
            · subst k5
              obtain ⟨zs2, O5⟩ := own_one HO3.out
              obtain ⟨⟨x0, x1, x2, x3, x4, x5, x6⟩, ⟨y0, y1, y2, y3, y4, y5, y6⟩, hxl⟩ := blk7 X3.out
              obtain ⟨⟨r0, r1, r2, r3, r4, r5, r6⟩, ⟨f0, f1, f2, f3, f4, f5, f6⟩, hrl⟩ := blk7 R3.out
              go_wp2_with fail
              (try simp only [Exit.inBlock, Exit.then])
              refine bodyPost_ret (by simp [results, Tryd.results33, go_sem, r0, r1, r2, r3, r4, r5, r6, f0, f1, f2, f3, f4, f5, f6, hne3, hne4]; try rfl) rfl ?_
              refine ⟨_, g1, 1, cp1, zs2, _, _, _, _, _, _, rfl, by omega, by omega, by omega, by omega, ?_, ?_, ?_⟩
              · exact st7_own (own_setF O5 hne1) hne2
              · exact (st7_src (HS3.out.set _ _ (by dsimp only; omega) (fun b' off e h0 => by have := HAB.out b' off e h0; dsimp only; omega)) (by omega) (fun b' off e h0 => by have := HAB.out b' off e h0; omega)).mono (by omega)
              · exact st7_grown (set_grown HG3.out (by dsimp only; omega)) (Nat.le_refl _)
            · have q5 : (k == 5) = false := beq_eq_false_iff_ne.mpr k5
              by_cases k6 : k = 6
              · subst k6
                obtain ⟨⟨x0, x1, x2, x3, x4, x5, x6⟩, ⟨y0, y1, y2, y3, y4, y5, y6⟩, hxl⟩ := blk7 X3.out
                go_wp2_with fail
                clear x0 x1 x2 x3 x4 x5 x6 y0 y1 y2 y3 y4 y5 y6
                refine (amongW b A n c (M + 102) cs [-1, 36000000, 36000001] 3 _ HS3.out hn (by omega) rfl (by omega) (by omega)).mono ?_
                rintro e w4 ⟨v, rfl, -, S4, g4⟩
                have HS4 := Lib.hid S4
                have HG4 := Lib.hid (grown_tr HG3.out g4)
                have R4 := Lib.hid (blk_over R3.out g4 (by intro e; injection e with e; omega))
                have X4 := Lib.hid (blk_over X3.out g4 (by intro e; injection e with e; omega))
                have HO4 := Lib.hid (HO3.out.apart g4 (fun _ => by omega))
                clear S4 g4 HS3 HG3 R3 X3 HO3
                obtain ⟨⟨x0, x1, x2, x3, x4, x5, x6⟩, ⟨y0, y1, y2, y3, y4, y5, y6⟩, hxl⟩ := blk7 X4.out
                obtain ⟨⟨r0, r1, r2, r3, r4, r5, r6⟩, ⟨f0, f1, f2, f3, f4, f5, f6⟩, hrl⟩ := blk7 R4.out
                go_wp2_with fail
                (try simp only [Exit.inBlock, Exit.then])
                refine bodyPost_ret (by simp [results, Tryd.results33, go_sem, r0, r1, r2, r3, r4, r5, r6, f0, f1, f2, f3, f4, f5, f6, hne3, hne4]; try rfl) rfl ?_
                refine ⟨_, g1, 2, cp1, zs1, _, _, _, _, _, _, rfl, by omega, by omega, by omega, by omega, ?_, ?_, ?_⟩
                · exact st7_own (own_setF HO4.out hne1) hne2
                · exact (st7_src (HS4.out.set _ _ (by dsimp only; omega) (fun b' off e h0 => by have := HAB.out b' off e h0; dsimp only; omega)) (by omega) (fun b' off e h0 => by have := HAB.out b' off e h0; omega)).mono (by omega)
                · exact st7_grown (set_grown HG4.out (by dsimp only; omega)) (Nat.le_refl _)
              · have q6 : (k == 6) = false := beq_eq_false_iff_ne.mpr k6
                obtain ⟨⟨x0, x1, x2, x3, x4, x5, x6⟩, ⟨y0, y1, y2, y3, y4, y5, y6⟩, hxl⟩ := blk7 X3.out
                obtain ⟨⟨r0, r1, r2, r3, r4, r5, r6⟩, ⟨f0, f1, f2, f3, f4, f5, f6⟩, hrl⟩ := blk7 R3.out
                go_wp2_with fail
                (try simp only [Exit.inBlock, Exit.then])
                refine bodyPost_ret (by simp [results, Tryd.results33, go_sem, r0, r1, r2, r3, r4, r5, r6, f0, f1, f2, f3, f4, f5, f6, hne3, hne4]; try rfl) rfl ?_
                refine ⟨_, g1, 2, cp1, zs1, _, _, _, _, _, _, rfl, by omega, by omega, by omega, by omega, ?_, ?_, ?_⟩
                · exact st7_own (HO3.out) hne2
                · exact (st7_src (HS3.out) (by omega) (fun b' off e h0 => by have := HAB.out b' off e h0; omega)).mono (by omega)
                · exact st7_grown (HG3.out) (Nat.le_refl _)
end Go.Proofs.YtbepfonpfnllkaaDoor
