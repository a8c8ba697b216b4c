/- FnCaptures: a sown position on its way: its boxes, what draws and stores leave. No conditions. -/
import Derived.Test.YtcfbihponecblaaG08
import Derived.Deep.DeepMust
/- FnCaptures: positions are drawn. Conditions: rules with at most eight pits, at most 2^20 bytes. -/
namespace Go.Proofs.Ytcfbihponecblaa
set_option linter.unusedSimpArgs false
set_option linter.unusedVariables false
open Go.RowKit Go.WideShapes Go.ChangeShapes

theorem row_baseD {w : World} {base base' : Nat} {e : TypeId} {size n : Nat} {v : Value} {xs : List Value} (h : w.ownsRow base e size v n xs) (hb : base' ≤ base) : w.ownsRow base' e size v n xs :=
  ⟨h.1, h.2.imp id (fun ⟨g, cap, cur, a, b, r⟩ => ⟨g, cap, cur, a, Nat.le_trans hb b, r⟩)⟩
theorem row_setF {w : World} {base : Nat} {e : TypeId} {size n g o : Nat} {v u : Value} {xs : List Value} (h : w.ownsRow base e size v n xs) (hg : g < base) : (w.setCell ⟨g, o, none⟩ u).ownsRow base e size v n xs :=
  row_set h (fun k hk he => by have := (h.lt k hk).1; dsimp only at he; omega) u
/-- An own list of numbers: the place of one, and what a store there leaves. -/
theorem own_at {w : World} {g n k : Nat} {t : TypeId} {A : Option Addr} {zs : List Int} (h : OwnV w g t 1 A n (zs.map (Value.int .i64))) (hk : k < n) : A = some ⟨g, 0, none⟩ ∧ (∃ z : Int, w.cell? ⟨g, k, none⟩ = some (.int .i64 z)) ∧ w.frozen? ⟨g, k, none⟩ = false ∧ g < w.heap.size ∧ ∀ x : Int, ∃ zs' : List Int, OwnV (w.setCell ⟨g, k, none⟩ (.int .i64 x)) g t 1 A n (zs'.map (Value.int .i64)) := by
  have hl := h.len
  simp only [List.length_map, Nat.mul_one] at hl
  obtain ⟨hA, rest, hb⟩ := h.blk (by omega)
  refine ⟨hA, ⟨zs.getD k 0, ?_⟩, hb.free k, hb.lt, fun x => ⟨zs.set k x, by simpa using hl, fun _ => ⟨hA, rest, ?_⟩⟩⟩
  · have h1 := hb.cell k
    rw [List.getElem?_toArray, List.getElem?_append_left (by rw [List.length_map]; omega), getD_map_int (by omega)] at h1
    exact h1
  · have h1 := hb.set k (.int .i64 x)
    rw [List.setIfInBounds_toArray, List.set_append_left _ _ (by rw [List.length_map]; omega), ← List.map_set] at h1
    exact h1
theorem info_i64d : (Try.prog.info? 2).map (fun i => (i.zero, i.size, i.bytes)) = some (some (.int .i64 0), 1, 8) := by kernel_rfl
theorem Blk.drewB {w : World} {g : Nat} {t : TypeId} {cs : Array Value} (h : Blk w g t cs) : Blk w.drew g t cs := h
theorem blk_later1 {w : World} {g : Nat} {t : TypeId} {cs : Array Value} {ob : Obj} (h : Blk w g t cs) : Blk (w.alloc ob).drew g t cs := Blk.drewB (h.later (Below.alloc (Below.refl _ _) (Nat.le_refl _) ob))
/-- A position's value of one's own with so many pits. -/
def PoQ (t : TypeId) (P : Nat) (w : World) (e : Ending) (w' : World) : Prop := ∃ (v : Value) (zs : List Int) (g2 : Nat), e = .returned (.agg #[v, .slice (some ⟨g2, 0, none⟩) 2 2, .int .i64 0]) ∧ zs.length = 2 * P ∧ w'.ownsRow w.heap.size t 1 v (2 * P) (zs.map (Value.int .i64)) ∧ w.heap.size ≤ g2 ∧ v.ownBlock ≠ some g2 ∧ OwnV w' g2 t 1 (some ⟨g2, 0, none⟩) 2 (([0, 0] : List Int).map (Value.int .i64)) ∧ Below w.heap.size w w'
set_option maxRecDepth 20000 in
set_option maxHeartbeats 4000000 in
theorem l04Start_any (b0 P : Nat) (s : Int) (w : World) (h0 : w.cell? ⟨b0, 0, none⟩ = some (.int .i64 (P : Int))) (h1 : w.cell? ⟨b0, 1, none⟩ = some (.int .i64 s)) (h8 : P ≤ 8) :
    Calls Try.prog 37 #[.pointer (some ⟨b0, 0, none⟩)] w (PoQ 2 P w) := by
  obtain ⟨i0, ti, tz0, tz1, tz2⟩ := info_parts info_i64d
  have hl0 := cell_lt h0
  have H0 := Lib.hid h0
  have H1 := Lib.hid h1
  clear h0 h1
  go_enter Try.func37, Try.ntmps37
  go_upto_region 2 with fail
  obtain ⟨w1, hw1⟩ : ∃ X_, X_ = ((w.alloc (.cells #[.slice none 0 0, .slice none 0 0, .int .i64 0] 58)).alloc (.cells #[.int .i64 0, .int .i64 0] 2)).alloc (.cells #[.slice none 0 0, .slice (some ⟨w.heap.size + 1, 0, none⟩) 2 2, .int .i64 0] 58) := ⟨_, rfl⟩
  have R1 : Hid (Blk w1 w.heap.size 58 #[.slice none 0 0, .slice none 0 0, .int .i64 0]) := by unfold Hid; rw [hw1]; exact ((Blk.new _ _ _).later (Below.alloc (Below.refl _ _) (Nat.le_refl _) _)).later (Below.alloc (Below.refl _ _) (Nat.le_refl _) _)
  have O1 : Hid (Blk w1 (w.heap.size + 1) 2 #[.int .i64 0, .int .i64 0]) := by unfold Hid; rw [hw1]; exact (Blk.new' (by simp)).later (Below.alloc (Below.refl _ _) (Nat.le_refl _) _)
  have X1 : Hid (Blk w1 (w.heap.size + 1 + 1) 58 #[.slice none 0 0, .slice (some ⟨w.heap.size + 1, 0, none⟩) 2 2, .int .i64 0]) := by unfold Hid; rw [hw1]; exact Blk.new' (by simp)
  have B1 : Hid (Below w.heap.size w w1) := by unfold Hid; rw [hw1]; (repeat' (first | (with_reducible exact Below.refl _ _) | (with_reducible assumption) | (with_reducible refine Below.alloc ?_ ?_ _) | (with_reducible refine Below.drew ?_) | (with_reducible refine belowDrewN ?_ _) | (with_reducible refine Below.setCell ?_ ?_ _) | (with_reducible refine Below.via (by with_reducible assumption) ?_ ?_) | (with_reducible refine Below.viaD (by with_reducible assumption) ?_ ?_) | (with_reducible exact Below.size (by with_reducible assumption)) | go_size | (with_reducible refine Nat.le_trans ?_ (Below.size (by with_reducible assumption))) | (with_reducible refine Nat.le_trans ?_ (sizeAlloc _ _)) | (with_reducible refine Nat.le_trans ?_ (sizeSet _ _ _)) | (with_reducible refine Nat.le_trans ?_ (sizeDrew _))))
  have hz1 : w1.heap.size = w.heap.size + 3 := by rw [hw1]; simp
  rw [← hw1]
  clear hw1
  go_wp2_with fail
  go_loopw [4] (fun v4 wr => ∃ (k : Nat) (v : Value) (zs : List Int), v4 = .int .i64 k ∧ k ≤ 2 * P ∧ zs.length = k ∧ Blk wr (w.heap.size + 1 + 1) 58 #[v, .slice (some ⟨w.heap.size + 1, 0, none⟩) 2 2, .int .i64 0] ∧ wr.ownsRow (w.heap.size + 3) 2 1 v k (zs.map (Value.int .i64)) ∧ Blk wr (w.heap.size + 1) 2 #[.int .i64 0, .int .i64 0] ∧ Blk wr w.heap.size 58 #[.slice none 0 0, .slice none 0 0, .int .i64 0] ∧ Below w.heap.size w wr) (fun v4 _ => 2 * P - (intOf v4).toNat)
  case atStart => exact ⟨0, _, [], rfl, by omega, rfl, X1.out, World.ownsRow_nil _ _ _ _, O1.out, R1.out, B1.out⟩
  case round =>
    obtain ⟨k, v, zs, rfl, hk, hzl, X, W, O, R, B⟩ := hrel
    rename World => wo
    obtain ⟨Av, gv, cv, rfl, -, -, -, -⟩ := own_of_row W
    have hzo := X.lt
    have HX := Lib.hid X
    have HW := Lib.hid W
    have HO := Lib.hid O
    have HR := Lib.hid R
    have HB := Lib.hid B
    have c0 := (B.cell (p := ⟨b0, 0, none⟩) hl0).trans H0.out
    have c1 := (B.cell (p := ⟨b0, 1, none⟩) hl0).trans H1.out
    obtain ⟨⟨x0, x1, x2⟩, ⟨y0, y1, y2⟩, _⟩ := blk3 X
    clear X W O R B X1 O1 R1 B1
    by_cases hlt : k < 2 * P
    case pos =>
      have hlt' : (k : Int) < 2 * (P : Int) := by omega
      have HST : Hid (wo.drew.cell? ⟨b0, 1, none⟩ = some (.int .i64 s)) := c1
      have HWA : Hid ((wo.alloc (.cells #[.int .i64 s] 2)).drew.ownsRow (w.heap.size + 3) 2 1 (.slice Av k cv) k (zs.map (Value.int .i64))) := (HW.out.alloc _).drew
      have hbz : b0 < wo.heap.size := by omega
      have hzz : w.heap.size + 3 ≤ (wo.alloc (.cells #[.int .i64 s] 2)).drew.heap.size := by simp; omega
      have hnv : ∀ q, q < w.heap.size + 3 → (Value.ownBlock (.slice Av k cv)) ≠ some q := fun q hq e => by have := (HW.out.lt _ e).1; omega
      have HNV := Lib.hid hnv
      have hqb : w.heap.size + 1 + 1 ≠ b0 := by omega
      clear hnv
      go_wp2_with fail
      refine wp_region_held_drew (S := (fun W => W.cell? ⟨b0, 1, none⟩ = some (.int .i64 s))) (by kernel_rfl) ?_ (fun hHeld => ?_)
      focus ((try dsimp only); (first | (with_reducible exact HST.out) | (with_reducible exact hk7) | (with_reducible exact c1_allocD HST.out) | (with_reducible exact c1_set hHeld hqb)))
      refine H_take (i := 0) (v := ?_) rfl (by kernel_rfl) (by kernel_rfl) (by kernel_rfl) (fun _ _ _ h => h) (by rfl) ?_ (by assumption) ?_
      rotate_left
      focus (intro w hSw; have c1 := hSw; go_simp; first | done | with_reducible rfl | (trace_state; fail))
      try simp only [Act.put, List.setIfInBounds_toArray, List.set_cons_zero, List.set_cons_succ]
      refine H_take (i := 2) (v := ?_) rfl (by kernel_rfl) (by kernel_rfl) (by kernel_rfl) (fun _ _ _ h => h) (by rfl) ?_ (by assumption) ?_
      rotate_left
      focus (intro w hSw; have c1 := hSw; go_simp; first | done | with_reducible rfl | (trace_state; fail))
      try simp only [Act.put, List.setIfInBounds_toArray, List.set_cons_zero, List.set_cons_succ]
      refine H_take (i := 3) (v := ?_) rfl (by kernel_rfl) (by kernel_rfl) (by kernel_rfl) (fun _ _ _ h => h) (by rfl) ?_ (by assumption) ?_
      rotate_left
      focus (intro w hSw; have c1 := hSw; go_simp; first | done | with_reducible rfl | (trace_state; fail))
      try simp only [Act.put, List.setIfInBounds_toArray, List.set_cons_zero, List.set_cons_succ]
      refine H_take (i := 4) (v := ?_) rfl (by kernel_rfl) (by kernel_rfl) (by kernel_rfl) (fun _ _ _ h => h) (by rfl) ?_ (by assumption) ?_
      rotate_left
      focus (intro w hSw; have c1 := hSw; go_simp; first | done | with_reducible rfl | (trace_state; fail))
      try simp only [Act.put, List.setIfInBounds_toArray, List.set_cons_zero, List.set_cons_succ]
      refine H_take (i := 5) (v := ?_) rfl (by kernel_rfl) (by kernel_rfl) (by kernel_rfl) (fun _ _ _ h => h) (by rfl) ?_ (by assumption) ?_
      rotate_left
      focus (intro w hSw; have c1 := hSw; go_simp; first | done | with_reducible rfl | (trace_state; fail))
      try simp only [Act.put, List.setIfInBounds_toArray, List.set_cons_zero, List.set_cons_succ]
      refine H_two (i := 1) (j := 6) rfl rfl (by kernel_rfl) (fun K hK => ?_) (fun K hK => ?_)
      · go_simp
        skip
        refine hK.out _ _ ?_ (fun hHeld => ?_)
        focus ((try dsimp only); (first | (with_reducible exact HST.out) | (with_reducible exact hk7) | (with_reducible exact c1_allocD HST.out) | (with_reducible exact c1_set hHeld hqb)))
        clear hK K
        try simp only [Act.put, List.setIfInBounds_toArray, List.set_cons_zero, List.set_cons_succ]
        refine H_call (i := 6) rfl (by kernel_rfl) (fun K hK => ?_)
        go_simp
        skip
        refine hK.out _ _ ?_ (fun hHeld => ?_)
        focus ((try dsimp only); (first | (with_reducible exact HST.out) | (with_reducible exact hk7) | (with_reducible exact c1_allocD HST.out) | (with_reducible exact c1_set hHeld hqb)))
        clear hK K
        try simp only [Act.put, List.setIfInBounds_toArray, List.set_cons_zero, List.set_cons_succ]
        refine H_call (i := 7) rfl (by kernel_rfl) (fun K hK => ?_)
        (refine step_append_sl _ rfl _ _ 26 rfl (w.heap.size + 3) 2 i0 _ 1 8 Try.underlying26 ti tz0 tz1 tz2 rfl (by decide) (.slice Av k cv) k (zs.map (Value.int .i64)) rfl HWA.out (wo.heap.size + 1) _ 1 1 [.int .i64 s] rfl (Sl.drew (Sl.built (w := wo) rfl (Nat.lt_succ_self _) rfl)) (by intro u hu; simp at hu; subst hu; rfl) (by unfold maxLen; omega) (by omega) hzz ?_; intro v7 w7 hown7 hg7 _; have hk7 := (cell_over (p := ⟨b0, 1, none⟩) hg7 (by simp; omega) (HNV.out _ (by simp; omega))).trans (c1_allocD HST.out (o := .cells #[.int .i64 s] 2)); have z7 := hg7.size; have q7 := blk_over (blk_later1 HX.out) hg7 (HNV.out _ (by omega)); obtain ⟨⟨u0, u1, u2⟩, ⟨t0, t1, t2⟩, _⟩ := blk3 q7; clear q7 u1 u2 t1 t2; have hw7 := hown7; obtain ⟨A7, gg7, cap7, rfl, _, _, _, _⟩ := own_of_row hw7; clear hw7)
        refine hK.out _ _ ?_ (fun hHeld => ?_)
        focus ((try dsimp only); (first | (with_reducible exact HST.out) | (with_reducible exact hk7) | (with_reducible exact c1_allocD HST.out) | (with_reducible exact c1_set hHeld hqb)))
        clear hK K
        try simp only [Act.put, List.setIfInBounds_toArray, List.set_cons_zero, List.set_cons_succ]
        refine H_take (i := 8) (v := ?_) rfl (by kernel_rfl) (by kernel_rfl) (by kernel_rfl) (fun _ _ _ h => h) (by rfl) ?_ (by assumption) ?_
        rotate_left
        focus (intro w hSw; have c1 := hSw; go_simp; first | done | with_reducible rfl | (trace_state; fail))
        try simp only [Act.put, List.setIfInBounds_toArray, List.set_cons_zero, List.set_cons_succ]
        refine H_call (i := 9) rfl (by kernel_rfl) (fun K hK => ?_)
        go_simp
        skip
        refine hK.out _ _ ?_ (fun hHeld => ?_)
        focus ((try dsimp only); (first | (with_reducible exact HST.out) | (with_reducible exact hk7) | (with_reducible exact c1_allocD HST.out) | (with_reducible exact c1_set hHeld hqb)))
        clear hK K
        try simp only [Act.put, List.setIfInBounds_toArray, List.set_cons_zero, List.set_cons_succ]
        refine wpAnyH_done (by kernel_rfl) ?_ _
        have HX7 := Lib.hid (blk_over (blk_later1 HX.out) hg7 (HNV.out _ (by omega)))
        have HO7 := Lib.hid (blk_over (blk_later1 HO.out) hg7 (HNV.out _ (by omega)))
        have HR7 := Lib.hid (blk_over (blk_later1 HR.out) hg7 (HNV.out _ (by omega)))
        have HB7 : Hid (Below w.heap.size w w7) := below_app (Below.drew (Below.alloc HB.out (by omega) _)) HWA.out hg7 (by omega) (by omega)
        have HW7 : Hid (w7.ownsRow (w.heap.size + 3) 2 1 (.slice A7 (k + 1) cap7) (k + 1) ((zs ++ [s]).map (Value.int .i64))) := by unfold Hid; rw [List.map_append]; exact hown7
        clear hown7 hg7 x0 x1 x2 y0 y1 y2 HX HW HO HR HB
        go_wp2_with fail
        go_roundw
        case rel => exact ⟨k + 1, _, zs ++ [s], by first | rfl | go_num, by omega, by rw [List.length_append]; simp; omega, by have h := HX7.out.set 0 (.slice A7 (k + 1) cap7); simpa only [List.setIfInBounds_toArray, List.set_cons_zero, List.set_cons_succ] using h, row_setF HW7.out (by omega), blk_setF HO7.out (by omega), blk_setF HR7.out (by omega), Below.setCell HB7.out (by dsimp only; omega) _⟩
        case measure => first | (simp [intOf]; done) | (simp [intOf]; omega)
      · go_simp
        skip
        refine hK.out _ _ ?_ (fun hHeld => ?_)
        focus ((try dsimp only); (first | (with_reducible exact HST.out) | (with_reducible exact hk7) | (with_reducible exact c1_allocD HST.out) | (with_reducible exact c1_set hHeld hqb)))
        clear hK K
        try simp only [Act.put, List.setIfInBounds_toArray, List.set_cons_zero, List.set_cons_succ]
        refine H_call (i := 1) rfl (by kernel_rfl) (fun K hK => ?_)
        go_simp
        skip
        refine hK.out _ _ ?_ (fun hHeld => ?_)
        focus ((try dsimp only); (first | (with_reducible exact HST.out) | (with_reducible exact hk7) | (with_reducible exact c1_allocD HST.out) | (with_reducible exact c1_set hHeld hqb)))
        clear hK K
        try simp only [Act.put, List.setIfInBounds_toArray, List.set_cons_zero, List.set_cons_succ]
        refine H_call (i := 7) rfl (by kernel_rfl) (fun K hK => ?_)
        (refine step_append_sl _ rfl _ _ 26 rfl (w.heap.size + 3) 2 i0 _ 1 8 Try.underlying26 ti tz0 tz1 tz2 rfl (by decide) (.slice Av k cv) k (zs.map (Value.int .i64)) rfl HWA.out (wo.heap.size + 1) _ 1 1 [.int .i64 s] rfl (Sl.drew (Sl.built (w := wo) rfl (Nat.lt_succ_self _) rfl)) (by intro u hu; simp at hu; subst hu; rfl) (by unfold maxLen; omega) (by omega) hzz ?_; intro v7 w7 hown7 hg7 _; have hk7 := (cell_over (p := ⟨b0, 1, none⟩) hg7 (by simp; omega) (HNV.out _ (by simp; omega))).trans (c1_allocD HST.out (o := .cells #[.int .i64 s] 2)); have z7 := hg7.size; have q7 := blk_over (blk_later1 HX.out) hg7 (HNV.out _ (by omega)); obtain ⟨⟨u0, u1, u2⟩, ⟨t0, t1, t2⟩, _⟩ := blk3 q7; clear q7 u1 u2 t1 t2; have hw7 := hown7; obtain ⟨A7, gg7, cap7, rfl, _, _, _, _⟩ := own_of_row hw7; clear hw7)
        refine hK.out _ _ ?_ (fun hHeld => ?_)
        focus ((try dsimp only); (first | (with_reducible exact HST.out) | (with_reducible exact hk7) | (with_reducible exact c1_allocD HST.out) | (with_reducible exact c1_set hHeld hqb)))
        clear hK K
        try simp only [Act.put, List.setIfInBounds_toArray, List.set_cons_zero, List.set_cons_succ]
        refine H_take (i := 8) (v := ?_) rfl (by kernel_rfl) (by kernel_rfl) (by kernel_rfl) (fun _ _ _ h => h) (by rfl) ?_ (by assumption) ?_
        rotate_left
        focus (intro w hSw; have c1 := hSw; go_simp; first | done | with_reducible rfl | (trace_state; fail))
        try simp only [Act.put, List.setIfInBounds_toArray, List.set_cons_zero, List.set_cons_succ]
        refine H_call (i := 9) rfl (by kernel_rfl) (fun K hK => ?_)
        go_simp
        skip
        refine hK.out _ _ ?_ (fun hHeld => ?_)
        focus ((try dsimp only); (first | (with_reducible exact HST.out) | (with_reducible exact hk7) | (with_reducible exact c1_allocD HST.out) | (with_reducible exact c1_set hHeld hqb)))
        clear hK K
        try simp only [Act.put, List.setIfInBounds_toArray, List.set_cons_zero, List.set_cons_succ]
        refine wpAnyH_done (by kernel_rfl) ?_ _
        have HX7 := Lib.hid (blk_over (blk_later1 HX.out) hg7 (HNV.out _ (by omega)))
        have HO7 := Lib.hid (blk_over (blk_later1 HO.out) hg7 (HNV.out _ (by omega)))
        have HR7 := Lib.hid (blk_over (blk_later1 HR.out) hg7 (HNV.out _ (by omega)))
        have HB7 : Hid (Below w.heap.size w w7) := below_app (Below.drew (Below.alloc HB.out (by omega) _)) HWA.out hg7 (by omega) (by omega)
        have HW7 : Hid (w7.ownsRow (w.heap.size + 3) 2 1 (.slice A7 (k + 1) cap7) (k + 1) ((zs ++ [s]).map (Value.int .i64))) := by unfold Hid; rw [List.map_append]; exact hown7
        clear hown7 hg7 x0 x1 x2 y0 y1 y2 HX HW HO HR HB
        go_wp2_with fail
        go_roundw
        case rel => exact ⟨k + 1, _, zs ++ [s], by first | rfl | go_num, by omega, by rw [List.length_append]; simp; omega, by have h := HX7.out.set 0 (.slice A7 (k + 1) cap7); simpa only [List.setIfInBounds_toArray, List.set_cons_zero, List.set_cons_succ] using h, row_setF HW7.out (by omega), blk_setF HO7.out (by omega), blk_setF HR7.out (by omega), Below.setCell HB7.out (by dsimp only; omega) _⟩
        case measure => first | (simp [intOf]; done) | (simp [intOf]; omega)
    case neg =>
      obtain rfl : k = 2 * P := by omega
      have hlt' : ¬ ((2 * P : Nat) : Int) < 2 * (P : Int) := by omega
      obtain ⟨⟨r0, r1, r2⟩, ⟨f0, f1, f2⟩, _⟩ := blk3 HR.out
      go_wp2_with fail
      (try simp only [Exit.inBlock, Exit.then])
      refine bodyPost_ret (by simp [results, Try.results37, go_sem, r0, r1, r2, f0, f1, f2]; try rfl) rfl ?_
      refine ⟨.slice Av (2 * P) cv, zs, w.heap.size + 1, rfl, hzl, ?_, by omega, fun e => by have := (HW.out.lt _ e).1; omega, ?_, ?_⟩
      · refine row_baseD (base := w.heap.size + 3) ?_ (by omega)
        (repeat (first | (with_reducible refine row_setF ?_ (by omega)))); exact HW.out
      · (repeat (first | (with_reducible refine own_setF ?_ (by omega)))); exact ⟨rfl, fun _ => ⟨rfl, [], by simpa using HO.out⟩⟩
      · (repeat (first | (with_reducible refine Below.setCell ?_ (by dsimp only; omega) _))); exact HB.out
end Go.Proofs.Ytcfbihponecblaa
/- FnCaptures: positions are drawn. Conditions: rules with two to eight pits, at most 2^20 bytes. -/
namespace Go.Proofs.Ytcfbihponecblaa
set_option linter.unusedSimpArgs false
set_option linter.unusedVariables false
open Go.RowKit Go.WideShapes Go.ChangeShapes

/-- The blocks that a draw of a position uses lie apart. -/
structure PD (w : World) (b : Nat) (A : Option Addr) (n q g1 g2 qr b0 : Nat) : Prop where
  e1 : q ≠ g1
  e2 : q ≠ g2
  e3 : g1 ≠ g2
  e4 : g1 ≠ qr
  e5 : g2 ≠ qr
  e6 : q ≠ qr
  e7 : b0 ≠ g1
  e8 : b0 ≠ g2
  e9 : b0 ≠ q
  ea : b ≠ q
  eb : b ≠ g1
  ec : b ≠ g2
  ed : b ≠ qr
  ee : b ≠ b0
  ef : w.heap.size ≤ g1
  eg : w.heap.size ≤ g2
  eh : w.heap.size ≤ q
  ei : w.heap.size ≤ qr
  ej : ∀ b' off, A = some ⟨b', off, none⟩ → 0 < n → b' < w.heap.size
/-- A position on its way: its box, its pits and stores, the rules' pits, the source. -/
structure PS (tp t64 : TypeId) (w : World) (b : Nat) (A : Option Addr) (n c : Nat) (cs : List Int) (q g1 g2 qr b0 P c1 : Nat) (pl : Int) (M : Nat) (wr : World) : Prop where
  x : Blk wr q tp #[.slice (some ⟨g1, 0, none⟩) (2 * P) c1, .slice (some ⟨g2, 0, none⟩) 2 2, .int .i64 pl]
  o1 : ∃ zs : List Int, OwnV wr g1 t64 1 (some ⟨g1, 0, none⟩) (2 * P) (zs.map (Value.int .i64))
  o2 : ∃ zs : List Int, OwnV wr g2 t64 1 (some ⟨g2, 0, none⟩) 2 (zs.map (Value.int .i64))
  r : Blk wr qr tp #[.slice none 0 0, .slice none 0 0, .int .i64 0]
  k : wr.cell? ⟨b0, 0, none⟩ = some (.int .i64 (P : Int))
  s : Src wr b A n c M cs
  g : w.grownBy wr (some b)
section
variable {tp t64 : TypeId} {w : World} {b : Nat} {A : Option Addr} {n c : Nat} {cs : List Int} {q g1 g2 qr b0 P c1 : Nat} {pl : Int} {M M' : Nat} {wr wr' : World}
theorem some_ne {a b : Nat} (h : a ≠ b) : some a ≠ some b := fun e => by injection e with e; exact h e
theorem PS.draw (h : PS tp t64 w b A n c cs q g1 g2 qr b0 P c1 pl M wr) (d : PD w b A n q g1 g2 qr b0) (hs : Src wr' b A n c M' cs) (hg : wr.grownBy wr' (some b)) : PS tp t64 w b A n c cs q g1 g2 qr b0 P c1 pl M' wr' :=
  ⟨blk_over h.x hg (some_ne d.ea), h.o1.elim fun zs h => ⟨zs, h.apart hg (fun _ => d.eb.symm)⟩, h.o2.elim fun zs h => ⟨zs, h.apart hg (fun _ => d.ec.symm)⟩, blk_over h.r hg (some_ne d.ed), (cell_over (p := ⟨b0, 0, none⟩) hg (cell_lt h.k) (some_ne d.ee)).trans h.k, hs, grown_tr h.g hg⟩
theorem PS.mono (h : PS tp t64 w b A n c cs q g1 g2 qr b0 P c1 pl M wr) (hm : M ≤ M') : PS tp t64 w b A n c cs q g1 g2 qr b0 P c1 pl M' wr :=
  ⟨h.x, h.o1, h.o2, h.r, h.k, h.s.mono hm, h.g⟩
theorem PS.dr (h : PS tp t64 w b A n c cs q g1 g2 qr b0 P c1 pl M wr) : PS tp t64 w b A n c cs q g1 g2 qr b0 P c1 pl M wr.drew :=
  ⟨h.x, h.o1.elim fun zs h => ⟨zs, own_drF h⟩, h.o2.elim fun zs h => ⟨zs, own_drF h⟩, h.r, h.k, src_drF h.s, grown_drF h.g⟩
theorem PS.pitAt (h : PS tp t64 w b A n c cs q g1 g2 qr b0 P c1 pl M wr) {j : Nat} (hj : j < 2 * P) : (∃ z : Int, wr.cell? ⟨g1, j, none⟩ = some (.int .i64 z)) ∧ wr.frozen? ⟨g1, j, none⟩ = false := by
  obtain ⟨zs, ho⟩ := h.o1
  obtain ⟨-, h1, h2, -⟩ := own_at ho hj
  exact ⟨h1, h2⟩
theorem PS.stoAt (h : PS tp t64 w b A n c cs q g1 g2 qr b0 P c1 pl M wr) {j : Nat} (hj : j < 2) : (∃ z : Int, wr.cell? ⟨g2, j, none⟩ = some (.int .i64 z)) ∧ wr.frozen? ⟨g2, j, none⟩ = false := by
  obtain ⟨zs, ho⟩ := h.o2
  obtain ⟨-, h1, h2, -⟩ := own_at ho hj
  exact ⟨h1, h2⟩
theorem PS.pit (h : PS tp t64 w b A n c cs q g1 g2 qr b0 P c1 pl M wr) (d : PD w b A n q g1 g2 qr b0) {j : Nat} (hj : j < 2 * P) (x : Int) : PS tp t64 w b A n c cs q g1 g2 qr b0 P c1 pl M (wr.setCell ⟨g1, j, none⟩ (.int .i64 x)) := by
  obtain ⟨zs, ho⟩ := h.o1
  obtain ⟨-, -, -, -, hs⟩ := own_at ho hj
  obtain ⟨zs', ho'⟩ := hs x
  exact ⟨blk_setF h.x d.e1, ⟨zs', ho'⟩, h.o2.elim fun zs h => ⟨zs, own_setF h d.e3.symm⟩, blk_setF h.r d.e4.symm, c1_set h.k d.e7.symm, h.s.set _ _ (by dsimp only; exact d.eb.symm) (fun b' off e h0 => by have := d.ej b' off e h0; have := d.ef; dsimp only; omega), set_grown h.g (by dsimp only; exact d.ef)⟩
theorem PS.sto (h : PS tp t64 w b A n c cs q g1 g2 qr b0 P c1 pl M wr) (d : PD w b A n q g1 g2 qr b0) {j : Nat} (hj : j < 2) (x : Int) : PS tp t64 w b A n c cs q g1 g2 qr b0 P c1 pl M (wr.setCell ⟨g2, j, none⟩ (.int .i64 x)) := by
  obtain ⟨zs, ho⟩ := h.o2
  obtain ⟨-, -, -, -, hs⟩ := own_at ho hj
  obtain ⟨zs', ho'⟩ := hs x
  exact ⟨blk_setF h.x d.e2, h.o1.elim fun zs h => ⟨zs, own_setF h d.e3⟩, ⟨zs', ho'⟩, blk_setF h.r d.e5.symm, c1_set h.k d.e8.symm, h.s.set _ _ (by dsimp only; exact d.ec.symm) (fun b' off e h0 => by have := d.ej b' off e h0; have := d.eg; dsimp only; omega), set_grown h.g (by dsimp only; exact d.eg)⟩
theorem PS.plr (h : PS tp t64 w b A n c cs q g1 g2 qr b0 P c1 pl M wr) (d : PD w b A n q g1 g2 qr b0) (x : Int) : PS tp t64 w b A n c cs q g1 g2 qr b0 P c1 x M (wr.setCell ⟨q, 2, none⟩ (.int .i64 x)) := by
  have h1 := h.x.set 2 (.int .i64 x)
  simp only [List.setIfInBounds_toArray, List.set_cons_zero, List.set_cons_succ] at h1
  exact ⟨h1, h.o1.elim fun zs h => ⟨zs, own_setF h d.e1.symm⟩, h.o2.elim fun zs h => ⟨zs, own_setF h d.e2.symm⟩, blk_setF h.r d.e6.symm, c1_set h.k d.e9.symm, h.s.set _ _ (by dsimp only; exact d.ea.symm) (fun b' off e h0 => by have := d.ej b' off e h0; have := d.eh; dsimp only; omega), set_grown h.g (by dsimp only; exact d.eh)⟩
end
/-- A position's value of one's own with so many pits, and the source as it lies. -/
def PoD (t : TypeId) (b : Nat) (A : Option Addr) (n c M : Nat) (cs : List Int) (P : Nat) (w : World) (e : Ending) (w' : World) : Prop := ∃ (g1 g2 c1 : Nat) (zs zs2 : List Int) (pl : Int), e = .returned (.agg #[.slice (some ⟨g1, 0, none⟩) (2 * P) c1, .slice (some ⟨g2, 0, none⟩) 2 2, .int .i64 pl]) ∧ w.heap.size ≤ g1 ∧ w.heap.size ≤ g2 ∧ g1 ≠ g2 ∧ 2 * P ≤ c1 ∧ c1 ≤ maxLen ∧ OwnV w' g1 t 1 (some ⟨g1, 0, none⟩) (2 * P) (zs.map (Value.int .i64)) ∧ OwnV w' g2 t 1 (some ⟨g2, 0, none⟩) 2 (zs2.map (Value.int .i64)) ∧ Src w' b A n c (M + 90) cs ∧ w.grownBy w' (some b)
set_option maxRecDepth 20000 in
set_option maxHeartbeats 4000000 in
theorem l04Draw_any (b : Nat) (A : Option Addr) (n c M : Nat) (cs : List Int) (b0 P : Nat) (s : Int) (w : World) (h : Src w b A n c M cs) (hn : n ≤ 1048576) (hM : M ≤ 999980000) (h0 : w.cell? ⟨b0, 0, none⟩ = some (.int .i64 (P : Int))) (h1 : w.cell? ⟨b0, 1, none⟩ = some (.int .i64 s)) (hbb : b ≠ b0) (h2 : 2 ≤ P) (h8 : P ≤ 8) :
    Calls Try.prog 21 #[.pointer (some ⟨b, 0, none⟩), .pointer (some ⟨b0, 0, none⟩)] w (PoD 2 b A n c M cs P w) := by
  have hbl := h.lt
  have hl0 := cell_lt h0
  have HAB := Lib.hid h.aBelow
  have HA0 := Lib.hid (c1_alloc (o := .cells #[.slice none 0 0, .slice none 0 0, .int .i64 0] 58) h0)
  have HA1 := Lib.hid (c1_alloc (o := .cells #[.slice none 0 0, .slice none 0 0, .int .i64 0] 58) h1)
  have R0 := Lib.hid (Blk.new w 58 #[.slice none 0 0, .slice none 0 0, .int .i64 0])
  have HS0 := Lib.hid (h.later (Below.alloc (Below.refl _ _) (Nat.le_refl _) (.cells #[.slice none 0 0, .slice none 0 0, .int .i64 0] 58)))
  have HG0 : Hid (w.grownBy (w.alloc (.cells #[.slice none 0 0, .slice none 0 0, .int .i64 0] 58)) (some b)) := grown_alloc (World.grownBy.refl _ _) _
  have hz0 : (w.alloc (.cells #[.slice none 0 0, .slice none 0 0, .int .i64 0] 58)).heap.size = w.heap.size + 1 := by simp
  clear h h0 h1
  go_enter Try.func21, Try.ntmps21
  go_wp2_with fail
  refine (l04Start_any b0 P s _ HA0.out HA1.out h8).mono ?_
  rintro e w1 ⟨v, zs, g2, rfl, hzl, W1, hg2, hvg, O2, hb1⟩
  obtain ⟨A1, g1, c1, rfl, hg1, hnc, hcm, O1⟩ := own_of_row W1
  obtain ⟨rfl, -, -⟩ := O1.blk (by omega)
  have hg12 : g1 ≠ g2 := fun e => hvg (by rw [e]; rfl)
  have hgl1 := O1.lt (by omega)
  have hgl2 := O2.lt (by omega)
  have hz1 := hb1.size
  have HS1 := Lib.hid (HS0.out.later hb1)
  have HG1 := Lib.hid (grown_far HG0.out hb1)
  have R1 := Lib.hid (R0.out.later hb1)
  have HC1 := Lib.hid ((hb1.cell (p := ⟨b0, 0, none⟩) (by dsimp only; omega)).trans HA0.out)
  have HO1 := Lib.hid O1
  have HO2 := Lib.hid O2
  clear W1 hvg O1 O2 hb1 HS0 HG0 R0 HA0 HA1
  go_upto_region 2 with fail
  obtain ⟨w2, hw2⟩ : ∃ X_, X_ = w1.alloc (.cells #[.slice (some ⟨g1, 0, none⟩) (2 * P) c1, .slice (some ⟨g2, 0, none⟩) 2 2, .int .i64 0] 58) := ⟨_, rfl⟩
  have N2 : Hid (Below w1.heap.size w1 w2) := by unfold Hid; rw [hw2]; exact Below.alloc (Below.refl _ _) (Nat.le_refl _) _
  have X2 : Hid (Blk w2 w1.heap.size 58 #[.slice (some ⟨g1, 0, none⟩) (2 * P) c1, .slice (some ⟨g2, 0, none⟩) 2 2, .int .i64 0]) := by unfold Hid; rw [hw2]; exact Blk.new _ _ _
  rw [← hw2]
  clear hw2
  have HD : Hid (PD w b A n w1.heap.size g1 g2 w.heap.size b0) := ⟨by omega, by omega, hg12, by omega, by omega, by omega, by omega, by omega, by omega, by omega, by omega, by omega, by omega, hbb, by omega, by omega, by omega, by omega, HAB.out⟩
  have P2 : Hid (PS 58 2 w b A n c cs w1.heap.size g1 g2 w.heap.size b0 P c1 0 M w2) := ⟨X2.out, ⟨zs, HO1.out.later N2.out⟩, ⟨_, HO2.out.later N2.out⟩, R1.out.later N2.out, (N2.out.cell (p := ⟨b0, 0, none⟩) (by dsimp only; omega)).trans HC1.out, HS1.out.later N2.out, grown_far HG1.out N2.out⟩
  clear N2 X2 HO1 HO2 R1 HC1 HS1 HG1 HAB hzl
  obtain ⟨q, hq⟩ : ∃ q, w1.heap.size = q := ⟨_, rfl⟩
  rw [hq] at HD P2
  rw [hq]
  clear hq
  go_wp2_with fail
  refine (one_any b A n c M cs 2 _ P2.out.s hn (by omega) (by omega)).mono ?_
  rintro e w3 ⟨few, rfl, S3, g3⟩
  have P3 := Lib.hid (P2.out.draw HD.out S3 g3)
  clear S3 g3 P2
  go_wp2_with fail
  go_loopw [7] (fun v7 wr => ∃ k : Nat, v7 = .int .i64 k ∧ k ≤ 2 * P ∧ PS 58 2 w b A n c cs q g1 g2 w.heap.size b0 P c1 0 (M + 2 + 4 * k) wr) (fun v7 _ => 2 * P - (intOf v7).toNat)
  case atStart => exact ⟨0, rfl, by omega, P3.out⟩
  case round =>
    obtain ⟨k, rfl, hk, Po⟩ := hrel
    rename World => wo
    have Po := Lib.hid Po
    obtain ⟨⟨x0, x1, x2⟩, ⟨y0, y1, y2⟩, hxl⟩ := blk3 Po.out.x
    by_cases hlt : k < 2 * P
    case pos =>
      have hlt' : (k : Int) < 2 * (P : Int) := by omega
      have HST : Hid (wo.drew.cell? ⟨q, 0, none⟩ = some (.slice (some ⟨g1, 0, none⟩) (2 * P) c1)) := x0
      have hne1 : g1 ≠ q := HD.out.e1.symm
      have hnb : some b ≠ some q := some_ne HD.out.ea
      go_wp2_with fail
      refine wp_region_held_drew (S := (fun W => W.cell? ⟨q, 0, none⟩ = some (.slice (some ⟨g1, 0, none⟩) (2 * P) c1))) (by kernel_rfl) ?_ (fun hHeld => ?_)
      focus ((try dsimp only); (first | (with_reducible exact hk4) | (with_reducible exact HST.out) | (with_reducible exact c1_set hHeld hne1)))
      refine H_take (i := 0) (v := ?_) rfl (by kernel_rfl) (by kernel_rfl) (by kernel_rfl) (fun _ _ _ h => h) (by rfl) ?_ (by assumption) ?_
      rotate_left
      focus (intro w hSw; have c0 := hSw; go_simp; first | done | with_reducible rfl | (trace_state; fail))
      try simp only [Act.put, List.setIfInBounds_toArray, List.set_cons_zero, List.set_cons_succ]
      refine H_take (i := 1) (v := ?_) rfl (by kernel_rfl) (by kernel_rfl) (by kernel_rfl) (fun _ _ _ h => h) (by rfl) ?_ (by assumption) ?_
      rotate_left
      focus (intro w hSw; have c0 := hSw; go_simp; first | done | with_reducible rfl | (trace_state; fail))
      try simp only [Act.put, List.setIfInBounds_toArray, List.set_cons_zero, List.set_cons_succ]
      refine H_take (i := 2) (v := ?_) rfl (by kernel_rfl) (by kernel_rfl) (by kernel_rfl) (fun _ _ _ h => h) (by rfl) ?_ (by assumption) ?_
      rotate_left
      focus (intro w hSw; have c0 := hSw; go_simp; first | done | with_reducible rfl | (trace_state; fail))
      try simp only [Act.put, List.setIfInBounds_toArray, List.set_cons_zero, List.set_cons_succ]
      refine H_take (i := 3) (v := ?_) rfl (by kernel_rfl) (by kernel_rfl) (by kernel_rfl) (fun _ _ _ h => h) (by rfl) ?_ (by assumption) ?_
      rotate_left
      focus (intro w hSw; have c0 := hSw; go_simp; first | done | with_reducible rfl | (trace_state; fail))
      try simp only [Act.put, List.setIfInBounds_toArray, List.set_cons_zero, List.set_cons_succ]
      refine H_call (i := 4) rfl (by kernel_rfl) (fun K hK => ?_)
      go_simp
      (go_at_call 24; (with_reducible refine Calls.mono (pick_any b A n c (M + 2 + 4 * k) cs 6 _ Po.out.dr.s hn (by omega) (by omega)) ?_); rintro e w4 ⟨x, rfl, -, -, -, S4, g4⟩; have hk4 := (cell_over (p := ⟨q, 0, none⟩) g4 hxl hnb).trans HST.out; have P4 := Lib.hid (Po.out.dr.draw HD.out S4 g4); obtain ⟨⟨z, t0⟩, t1⟩ := P4.out.pitAt hlt; clear S4 g4)
      refine hK.out _ _ ?_ (fun hHeld => ?_)
      focus ((try dsimp only); (first | (with_reducible exact hk4) | (with_reducible exact HST.out) | (with_reducible exact c1_set hHeld hne1)))
      clear hK K
      try simp only [Act.put, List.setIfInBounds_toArray, List.set_cons_zero, List.set_cons_succ]
      refine H_take (i := 5) (v := ?_) rfl (by kernel_rfl) (by kernel_rfl) (by kernel_rfl) (fun _ _ _ h => h) (by rfl) ?_ (by assumption) ?_
      rotate_left
      focus (intro w hSw; have c0 := hSw; go_simp; first | done | with_reducible rfl | (trace_state; fail))
      try simp only [Act.put, List.setIfInBounds_toArray, List.set_cons_zero, List.set_cons_succ]
      refine H_call (i := 6) rfl (by kernel_rfl) (fun K hK => ?_)
      go_simp
      skip
      refine hK.out _ _ ?_ (fun hHeld => ?_)
      focus ((try dsimp only); (first | (with_reducible exact hk4) | (with_reducible exact HST.out) | (with_reducible exact c1_set hHeld hne1)))
      clear hK K
      try simp only [Act.put, List.setIfInBounds_toArray, List.set_cons_zero, List.set_cons_succ]
      refine wpAnyH_done (by kernel_rfl) ?_ _
      obtain ⟨w6, hw6⟩ : ∃ X_, X_ = w4.setCell ⟨g1, k, none⟩ (.int .i64 x) := ⟨_, rfl⟩
      have P6 : Hid (PS 58 2 w b A n c cs q g1 g2 w.heap.size b0 P c1 0 (M + 2 + 4 * k + 2) w6) := by unfold Hid; rw [hw6]; exact P4.out.pit HD.out hlt x
      rw [← hw6]
      clear hw6 hHeld t0 t1 P4 Po HST x0 x1 x2 y0 y1 y2 hxl
      cases few
      case false =>
        go_wp2_with fail
        go_roundw
        case rel => exact ⟨k + 1, by first | rfl | go_num, by omega, P6.out.mono (by omega)⟩
        case measure => first | (simp [intOf]; done) | (simp [intOf]; omega)
      case true =>
        go_wp2_with fail
        refine (one_any b A n c (M + 2 + 4 * k + 2) cs 3 _ P6.out.s hn (by omega) (by omega)).mono ?_
        rintro e w8 ⟨q3, rfl, S8, g8⟩
        have P8 := Lib.hid (P6.out.draw HD.out S8 g8)
        clear S8 g8 P6
        cases q3
        case true =>
          go_wp2_with fail
          go_roundw
          case rel => exact ⟨k + 1, by first | rfl | go_num, by omega, P8.out.mono (by omega)⟩
          case measure => first | (simp [intOf]; done) | (simp [intOf]; omega)
        case false =>
          obtain ⟨⟨x0, x1, x2⟩, ⟨y0, y1, y2⟩, hxl⟩ := blk3 P8.out.x
          obtain ⟨⟨z2, t0⟩, t1⟩ := P8.out.pitAt hlt
          go_wp2_with fail
          go_roundw
          case rel => exact ⟨k + 1, by first | rfl | go_num, by omega, (P8.out.pit HD.out hlt 0).mono (by omega)⟩
          case measure => first | (simp [intOf]; done) | (simp [intOf]; omega)
    case neg =>
      obtain rfl : k = 2 * P := by omega
      clear P3
      go_wp2_with fail
      refine (one_any b A n c (M + 2 + 4 * (2 * P)) cs 8 _ Po.out.s hn (by omega) (by omega)).mono ?_
      rintro e w5 ⟨q8, rfl, S5, g5⟩
      have P5 := Lib.hid (Po.out.draw HD.out S5 g5)
      clear S5 g5 Po x0 x1 x2 y0 y1 y2 hxl
      go_upto_if 38 with fail
      go_cut [5] (fun s5 wx => s5 = .pointer (some ⟨q, 0, none⟩) ∧ PS 58 2 w b A n c cs q g1 g2 w.heap.size b0 P c1 0 (M + 80) wx)
      case first =>
        cases q8
        case false =>
          go_wp2_with fail
          go_meet
          exact ⟨rfl, P5.out.mono (by omega)⟩
        case true =>
          go_wp2_with fail
          refine (pick_any b A n c (M + 2 + 4 * (2 * P) + 2) cs 2 _ P5.out.s hn (by omega) (by omega)).mono ?_
          rintro e w6 ⟨sd, rfl, sd0, sd1, -, S6, g6⟩
          have hsd := sd1 (by omega)
          have P6 := Lib.hid (P5.out.draw HD.out S6 g6)
          have c0 := P6.out.k
          clear S6 g6 P5 sd1
          rcases (show sd = 0 ∨ sd = 1 by omega) with rfl | rfl
          · go_wp2_with fail
            go_loopw [9] (fun v9 wr => ∃ k : Nat, v9 = .int .i64 k ∧ 0 ≤ k ∧ k ≤ P ∧ PS 58 2 w b A n c cs q g1 g2 w.heap.size b0 P c1 0 (M + 80) wr) (fun v9 _ => P - (intOf v9).toNat)
            case atStart => exact ⟨0, by first | rfl | go_num | (congr 1; omega), by omega, by omega, P6.out.mono (by omega)⟩
            case round =>
              obtain ⟨k, rfl, hk0, hk, Po⟩ := hrel
              rename World => wo
              have Po := Lib.hid Po
              have c0 := Po.out.k
              obtain ⟨⟨x0, x1, x2⟩, ⟨y0, y1, y2⟩, hxl⟩ := blk3 Po.out.x
              by_cases hlt : k < P
              case pos =>
                have hlt' : (k : Int) < (P : Int) := by omega
                have hlt2 : k < 2 * P := by omega
                obtain ⟨⟨z2, t0⟩, t1⟩ := Po.out.pitAt hlt2
                go_wp2_with fail
                go_roundw
                case rel => exact ⟨k + 1, by first | rfl | go_num, by omega, by omega, Po.out.pit HD.out hlt2 0⟩
                case measure => first | (simp [intOf]; done) | (simp [intOf]; omega)
              case neg =>
                have hlt' : ¬ (k : Int) < (P : Int) := by omega
                go_wp2_with fail
                go_meet
                exact ⟨rfl, Po.out⟩
          · go_wp2_with fail
            go_loopw [9] (fun v9 wr => ∃ k : Nat, v9 = .int .i64 k ∧ P ≤ k ∧ k ≤ 2 * P ∧ PS 58 2 w b A n c cs q g1 g2 w.heap.size b0 P c1 0 (M + 80) wr) (fun v9 _ => 2 * P - (intOf v9).toNat)
            case atStart => exact ⟨P, by first | rfl | go_num | (congr 1; omega), by omega, by omega, P6.out.mono (by omega)⟩
            case round =>
              obtain ⟨k, rfl, hk0, hk, Po⟩ := hrel
              rename World => wo
              have Po := Lib.hid Po
              have c0 := Po.out.k
              obtain ⟨⟨x0, x1, x2⟩, ⟨y0, y1, y2⟩, hxl⟩ := blk3 Po.out.x
              by_cases hlt : k < 2 * P
              case pos =>
                have hlt' : (k : Int) < 2 * (P : Int) := by omega
                have hlt2 : k < 2 * P := by omega
                obtain ⟨⟨z2, t0⟩, t1⟩ := Po.out.pitAt hlt2
                go_wp2_with fail
                go_roundw
                case rel => exact ⟨k + 1, by first | rfl | go_num, by omega, by omega, Po.out.pit HD.out hlt2 0⟩
                case measure => first | (simp [intOf]; done) | (simp [intOf]; omega)
              case neg =>
                have hlt' : ¬ (k : Int) < 2 * (P : Int) := by omega
                go_wp2_with fail
                go_meet
                exact ⟨rfl, Po.out⟩
      case rest =>
      obtain ⟨rfl, P7⟩ := hcut
      rename World => w7
      have P7 := Lib.hid P7
      clear P5
      obtain ⟨⟨x0, x1, x2⟩, ⟨y0, y1, y2⟩, hxl⟩ := blk3 P7.out.x
      have hne2 : g2 ≠ q := HD.out.e2.symm
      have hnb : some b ≠ some q := some_ne HD.out.ea
      have HST : Hid (w7.drew.cell? ⟨q, 1, none⟩ = some (.slice (some ⟨g2, 0, none⟩) 2 2)) := x1
      go_wp2_with fail
      refine wp_region_held_drew (S := (fun W => W.cell? ⟨q, 1, none⟩ = some (.slice (some ⟨g2, 0, none⟩) 2 2))) (by kernel_rfl) ?_ (fun hHeld => ?_)
      focus ((try dsimp only); (first | (with_reducible exact hk4) | (with_reducible exact HST.out) | (with_reducible exact c1_set hHeld hne2)))
      refine H_take (i := 0) (v := ?_) rfl (by kernel_rfl) (by kernel_rfl) (by kernel_rfl) (fun _ _ _ h => h) (by rfl) ?_ (by assumption) ?_
      rotate_left
      focus (intro w hSw; have c0 := hSw; go_simp; first | done | with_reducible rfl | (trace_state; fail))
      try simp only [Act.put, List.setIfInBounds_toArray, List.set_cons_zero, List.set_cons_succ]
      refine H_take (i := 1) (v := ?_) rfl (by kernel_rfl) (by kernel_rfl) (by kernel_rfl) (fun _ _ _ h => h) (by rfl) ?_ (by assumption) ?_
      rotate_left
      focus (intro w hSw; have c0 := hSw; go_simp; first | done | with_reducible rfl | (trace_state; fail))
      try simp only [Act.put, List.setIfInBounds_toArray, List.set_cons_zero, List.set_cons_succ]
      refine H_take (i := 2) (v := ?_) rfl (by kernel_rfl) (by kernel_rfl) (by kernel_rfl) (fun _ _ _ h => h) (by rfl) ?_ (by assumption) ?_
      rotate_left
      focus (intro w hSw; have c0 := hSw; go_simp; first | done | with_reducible rfl | (trace_state; fail))
      try simp only [Act.put, List.setIfInBounds_toArray, List.set_cons_zero, List.set_cons_succ]
      refine H_call (i := 3) rfl (by kernel_rfl) (fun K hK => ?_)
      go_simp
      (go_at_call 24; (with_reducible refine Calls.mono (pick_any b A n c (M + 80) cs 8 _ P7.out.dr.s hn (by omega) (by omega)) ?_); rintro e w8 ⟨x0', rfl, -, -, -, S4, g4⟩; have hk4 := (cell_over (p := ⟨q, 1, none⟩) g4 hxl hnb).trans HST.out; have P8 := Lib.hid (P7.out.dr.draw HD.out S4 g4); obtain ⟨⟨z0, t0⟩, t1⟩ := P8.out.stoAt (show 0 < 2 by omega); clear S4 g4)
      refine hK.out _ _ ?_ (fun hHeld => ?_)
      focus ((try dsimp only); (first | (with_reducible exact hk4) | (with_reducible exact HST.out) | (with_reducible exact c1_set hHeld hne2)))
      clear hK K
      try simp only [Act.put, List.setIfInBounds_toArray, List.set_cons_zero, List.set_cons_succ]
      refine H_take (i := 4) (v := ?_) rfl (by kernel_rfl) (by kernel_rfl) (by kernel_rfl) (fun _ _ _ h => h) (by rfl) ?_ (by assumption) ?_
      rotate_left
      focus (intro w hSw; have c0 := hSw; go_simp; first | done | with_reducible rfl | (trace_state; fail))
      try simp only [Act.put, List.setIfInBounds_toArray, List.set_cons_zero, List.set_cons_succ]
      refine H_call (i := 5) rfl (by kernel_rfl) (fun K hK => ?_)
      go_simp
      skip
      refine hK.out _ _ ?_ (fun hHeld => ?_)
      focus ((try dsimp only); (first | (with_reducible exact hk4) | (with_reducible exact HST.out) | (with_reducible exact c1_set hHeld hne2)))
      clear hK K
      try simp only [Act.put, List.setIfInBounds_toArray, List.set_cons_zero, List.set_cons_succ]
      refine wpAnyH_done (by kernel_rfl) ?_ _
      obtain ⟨w9, hw9⟩ : ∃ X_, X_ = w8.setCell ⟨g2, 0, none⟩ (.int .i64 x0') := ⟨_, rfl⟩
      have P9 : Hid (PS 58 2 w b A n c cs q g1 g2 w.heap.size b0 P c1 0 (M + 80 + 2) w9) := by unfold Hid; rw [hw9]; exact P8.out.sto HD.out (by omega) x0'
      rw [← hw9]
      clear hw9 hHeld t0 t1 P8 P7 HST x0 x1 x2 y0 y1 y2 hxl hk4
      obtain ⟨⟨h0', h1', h2'⟩, ⟨y0, y1, y2⟩, hxl⟩ := blk3 P9.out.x
      have HST : Hid (w9.drew.cell? ⟨q, 1, none⟩ = some (.slice (some ⟨g2, 0, none⟩) 2 2)) := h1'
      go_wp2_with fail
      refine wp_region_held_drew (S := (fun W => W.cell? ⟨q, 1, none⟩ = some (.slice (some ⟨g2, 0, none⟩) 2 2))) (by kernel_rfl) ?_ (fun hHeld => ?_)
      focus ((try dsimp only); (first | (with_reducible exact hk5) | (with_reducible exact HST.out) | (with_reducible exact c1_set hHeld hne2)))
      refine H_take (i := 0) (v := ?_) rfl (by kernel_rfl) (by kernel_rfl) (by kernel_rfl) (fun _ _ _ h => h) (by rfl) ?_ (by assumption) ?_
      rotate_left
      focus (intro w hSw; have c0 := hSw; go_simp; first | done | with_reducible rfl | (trace_state; fail))
      try simp only [Act.put, List.setIfInBounds_toArray, List.set_cons_zero, List.set_cons_succ]
      refine H_take (i := 1) (v := ?_) rfl (by kernel_rfl) (by kernel_rfl) (by kernel_rfl) (fun _ _ _ h => h) (by rfl) ?_ (by assumption) ?_
      rotate_left
      focus (intro w hSw; have c0 := hSw; go_simp; first | done | with_reducible rfl | (trace_state; fail))
      try simp only [Act.put, List.setIfInBounds_toArray, List.set_cons_zero, List.set_cons_succ]
      refine H_take (i := 2) (v := ?_) rfl (by kernel_rfl) (by kernel_rfl) (by kernel_rfl) (fun _ _ _ h => h) (by rfl) ?_ (by assumption) ?_
      rotate_left
      focus (intro w hSw; have c0 := hSw; go_simp; first | done | with_reducible rfl | (trace_state; fail))
      try simp only [Act.put, List.setIfInBounds_toArray, List.set_cons_zero, List.set_cons_succ]
      refine H_call (i := 3) rfl (by kernel_rfl) (fun K hK => ?_)
      go_simp
      (go_at_call 24; (with_reducible refine Calls.mono (pick_any b A n c (M + 80 + 2) cs 8 _ P9.out.dr.s hn (by omega) (by omega)) ?_); rintro e wa ⟨x1, rfl, -, -, -, S4, g4⟩; have hk5 := (cell_over (p := ⟨q, 1, none⟩) g4 hxl hnb).trans HST.out; have Pa := Lib.hid (P9.out.dr.draw HD.out S4 g4); obtain ⟨⟨z1, t0⟩, t1⟩ := Pa.out.stoAt (show 1 < 2 by omega); clear S4 g4)
      refine hK.out _ _ ?_ (fun hHeld => ?_)
      focus ((try dsimp only); (first | (with_reducible exact hk5) | (with_reducible exact HST.out) | (with_reducible exact c1_set hHeld hne2)))
      clear hK K
      try simp only [Act.put, List.setIfInBounds_toArray, List.set_cons_zero, List.set_cons_succ]
      refine H_take (i := 4) (v := ?_) rfl (by kernel_rfl) (by kernel_rfl) (by kernel_rfl) (fun _ _ _ h => h) (by rfl) ?_ (by assumption) ?_
      rotate_left
      focus (intro w hSw; have c0 := hSw; go_simp; first | done | with_reducible rfl | (trace_state; fail))
      try simp only [Act.put, List.setIfInBounds_toArray, List.set_cons_zero, List.set_cons_succ]
      refine H_call (i := 5) rfl (by kernel_rfl) (fun K hK => ?_)
      go_simp
      skip
      refine hK.out _ _ ?_ (fun hHeld => ?_)
      focus ((try dsimp only); (first | (with_reducible exact hk5) | (with_reducible exact HST.out) | (with_reducible exact c1_set hHeld hne2)))
      clear hK K
      try simp only [Act.put, List.setIfInBounds_toArray, List.set_cons_zero, List.set_cons_succ]
      refine wpAnyH_done (by kernel_rfl) ?_ _
      obtain ⟨wb, hwb⟩ : ∃ X_, X_ = wa.setCell ⟨g2, 1, none⟩ (.int .i64 x1) := ⟨_, rfl⟩
      have Pb : Hid (PS 58 2 w b A n c cs q g1 g2 w.heap.size b0 P c1 0 (M + 80 + 2 + 2) wb) := by unfold Hid; rw [hwb]; exact Pa.out.sto HD.out (by omega) x1
      rw [← hwb]
      clear hwb hHeld t0 t1 Pa P9 HST h0' h1' h2' y0 y1 y2 hxl
      go_wp2_with fail
      refine (pick_any b A n c (M + 80 + 2 + 2) cs 2 _ Pb.out.s hn (by omega) (by omega)).mono ?_
      rintro e wc ⟨pl, rfl, -, -, -, Sc, gc⟩
      have Pc := Lib.hid (Pb.out.draw HD.out Sc gc)
      clear Sc gc Pb
      obtain ⟨⟨c0, c1', c2⟩, ⟨d0, d1, d2⟩, hcl⟩ := blk3 Pc.out.x
      go_upto_region 18 with fail
      obtain ⟨wd, hwd⟩ : ∃ X_, X_ = wc.setCell ⟨q, 2, none⟩ (.int .i64 pl) := ⟨_, rfl⟩
      have Pd : Hid (PS 58 2 w b A n c cs q g1 g2 w.heap.size b0 P c1 pl (M + 80 + 2 + 2 + 2) wd) := by unfold Hid; rw [hwd]; exact Pc.out.plr HD.out pl
      rw [← hwd]
      clear hwd Pc c0 c1' c2 d0 d1 d2 hcl
      obtain ⟨⟨c0, c1', c2⟩, _, hcl⟩ := blk3 Pd.out.x
      obtain ⟨⟨r0, r1, r2⟩, ⟨f0, f1, f2⟩, hrl⟩ := blk3 Pd.out.r
      go_wp2_with fail
      (try simp only [Exit.inBlock, Exit.then])
      refine bodyPost_ret (by simp [results, Try.results21, go_sem, r0, r1, r2, f0, f1, f2]; try rfl) rfl ?_
      obtain ⟨za, Oa⟩ := Pd.out.o1
      obtain ⟨zb, Ob⟩ := Pd.out.o2
      refine ⟨g1, g2, c1, za, zb, pl, rfl, by omega, by omega, hg12, hnc, hcm, ?_, ?_, ?_, ?_⟩
      · (repeat (refine own_setF ?_ HD.out.e4)); exact Oa
      · (repeat (refine own_setF ?_ HD.out.e5)); exact Ob
      · (repeat (refine Src.set ?_ _ _ (by dsimp only; exact HD.out.ed.symm) (fun b' off e h0 => by have := HD.out.ej b' off e h0; dsimp only; omega))); exact Pd.out.s.mono (by omega)
      · (repeat (refine set_grown ?_ (by dsimp only; omega))); exact Pd.out.g
end Go.Proofs.Ytcfbihponecblaa
/- FnCaptures: a sown position on its way: its boxes, what draws and stores leave. No conditions. -/
namespace Go.Proofs.Ytcfbihponecblaa
set_option linter.unusedSimpArgs false
set_option linter.unusedVariables false
open Go.RowKit Go.WideShapes Go.ChangeShapes

/-- The blocks that a draw of a sown position uses lie apart. -/
structure QD (w : World) (b : Nat) (A : Option Addr) (n br q g1 g2 : Nat) : Prop where
  b0 : b < w.heap.size
  b1 : w.heap.size + 2 ≤ br
  b2 : w.heap.size + 2 ≤ q
  b3 : w.heap.size + 2 ≤ g1
  b4 : w.heap.size + 2 ≤ g2
  n1 : br ≠ q
  n2 : br ≠ g1
  n3 : br ≠ g2
  n4 : q ≠ g1
  n5 : q ≠ g2
  n6 : g1 ≠ g2
  ab : ∀ b' off, A = some ⟨b', off, none⟩ → 0 < n → b' < w.heap.size
structure QS (t25 t28 tx t64 : TypeId) (w : World) (b : Nat) (A : Option Addr) (n c : Nat) (cs : List Int) (br q g1 g2 N : Nat) (cr cx : Array Value) (M : Nat) (wr : World) : Prop where
  rb : Blk wr br t25 cr
  x : Blk wr q tx cx
  o1 : ∃ zs : List Int, OwnV wr g1 t64 1 (some ⟨g1, 0, none⟩) N (zs.map (Value.int .i64))
  o2 : ∃ zs : List Int, OwnV wr g2 t64 1 (some ⟨g2, 0, none⟩) 2 (zs.map (Value.int .i64))
  r1 : Blk wr w.heap.size t25 #[.int .i64 0, .int .i64 0, .bool false, .bool false, .bool false, .bool false, .bool false, .int .i64 0, .int .i64 0]
  r2 : Blk wr (w.heap.size + 1) t28 #[.slice none 0 0, .slice none 0 0, .int .i64 0, .int .i64 0]
  s : Src wr b A n c M cs
  g : w.grownBy wr (some b)
section
variable {t25 t28 tx t64 : TypeId} {w : World} {b : Nat} {A : Option Addr} {n c : Nat} {cs : List Int} {br q g1 g2 N : Nat} {cr cx : Array Value} {M M' : Nat} {wr wr' : World}
theorem QS.draw (h : QS t25 t28 tx t64 w b A n c cs br q g1 g2 N cr cx M wr) (d : QD w b A n br q g1 g2) (hs : Src wr' b A n c M' cs) (hg : wr.grownBy wr' (some b)) : QS t25 t28 tx t64 w b A n c cs br q g1 g2 N cr cx M' wr' := by
  obtain ⟨b0, b1, b2, b3, b4, n1, n2, n3, n4, n5, n6, ab⟩ := d
  exact ⟨blk_over h.rb hg (some_ne (by omega)), blk_over h.x hg (some_ne (by omega)), h.o1.elim fun zs h => ⟨zs, h.apart hg (fun _ => by omega)⟩, h.o2.elim fun zs h => ⟨zs, h.apart hg (fun _ => by omega)⟩, blk_over h.r1 hg (some_ne (by omega)), blk_over h.r2 hg (some_ne (by omega)), hs, grown_tr h.g hg⟩
theorem QS.mono (h : QS t25 t28 tx t64 w b A n c cs br q g1 g2 N cr cx M wr) (hm : M ≤ M') : QS t25 t28 tx t64 w b A n c cs br q g1 g2 N cr cx M' wr := ⟨h.rb, h.x, h.o1, h.o2, h.r1, h.r2, h.s.mono hm, h.g⟩
theorem QS.dr (h : QS t25 t28 tx t64 w b A n c cs br q g1 g2 N cr cx M wr) : QS t25 t28 tx t64 w b A n c cs br q g1 g2 N cr cx M wr.drew := ⟨h.rb, h.x, h.o1.elim fun zs h => ⟨zs, own_drF h⟩, h.o2.elim fun zs h => ⟨zs, own_drF h⟩, h.r1, h.r2, src_drF h.s, grown_drF h.g⟩
theorem QS.later (h : QS t25 t28 tx t64 w b A n c cs br q g1 g2 N cr cx M wr) (hb : Below wr.heap.size wr wr') : QS t25 t28 tx t64 w b A n c cs br q g1 g2 N cr cx M wr' := ⟨h.rb.later hb, h.x.later hb, h.o1.elim fun zs h => ⟨zs, h.later hb⟩, h.o2.elim fun zs h => ⟨zs, h.later hb⟩, h.r1.later hb, h.r2.later hb, h.s.later hb, grown_far h.g hb⟩
theorem QS.pitAt (h : QS t25 t28 tx t64 w b A n c cs br q g1 g2 N cr cx M wr) {j : Nat} (hj : j < N) : (∃ z : Int, wr.cell? ⟨g1, j, none⟩ = some (.int .i64 z)) ∧ wr.frozen? ⟨g1, j, none⟩ = false := by
  obtain ⟨zs, ho⟩ := h.o1
  obtain ⟨-, h1, h2, -⟩ := own_at ho hj
  exact ⟨h1, h2⟩
theorem QS.src (h : QS t25 t28 tx t64 w b A n c cs br q g1 g2 N cr cx M wr) (d : QD w b A n br q g1 g2) {p : Addr} (hp : w.heap.size ≤ p.block) (u : Value) : Src (wr.setCell p u) b A n c M cs :=
  h.s.set _ _ (by have := d.b0; omega) (fun b' off e h0 => by have := d.ab b' off e h0; omega)
theorem QS.pit (h : QS t25 t28 tx t64 w b A n c cs br q g1 g2 N cr cx M wr) (d : QD w b A n br q g1 g2) {j : Nat} (hj : j < N) (x : Int) : QS t25 t28 tx t64 w b A n c cs br q g1 g2 N cr cx M (wr.setCell ⟨g1, j, none⟩ (.int .i64 x)) := by
  obtain ⟨zs, ho⟩ := h.o1
  obtain ⟨-, -, -, -, hs⟩ := own_at ho hj
  obtain ⟨zs', ho'⟩ := hs x
  have hsr := h.src d (p := ⟨g1, j, none⟩) (by have := d.b3; dsimp only; omega) (.int .i64 x)
  obtain ⟨b0, b1, b2, b3, b4, n1, n2, n3, n4, n5, n6, ab⟩ := d
  exact ⟨blk_setF h.rb n2, blk_setF h.x n4, ⟨zs', ho'⟩, h.o2.elim fun zs h => ⟨zs, own_setF h n6.symm⟩, blk_setF h.r1 (by omega), blk_setF h.r2 (by omega), hsr, set_grown h.g (by dsimp only; omega)⟩
theorem QS.setX (h : QS t25 t28 tx t64 w b A n c cs br q g1 g2 N cr cx M wr) (d : QD w b A n br q g1 g2) (i : Nat) (u : Value) : QS t25 t28 tx t64 w b A n c cs br q g1 g2 N cr (cx.setIfInBounds i u) M (wr.setCell ⟨q, i, none⟩ u) := by
  have hsr := h.src d (p := ⟨q, i, none⟩) (by have := d.b2; dsimp only; omega) u
  obtain ⟨b0, b1, b2, b3, b4, n1, n2, n3, n4, n5, n6, ab⟩ := d
  exact ⟨blk_setF h.rb n1, h.x.set i u, h.o1.elim fun zs h => ⟨zs, own_setF h n4.symm⟩, h.o2.elim fun zs h => ⟨zs, own_setF h n5.symm⟩, blk_setF h.r1 (by omega), blk_setF h.r2 (by omega), hsr, set_grown h.g (by dsimp only; omega)⟩
theorem QS.setR (h : QS t25 t28 tx t64 w b A n c cs br q g1 g2 N cr cx M wr) (d : QD w b A n br q g1 g2) (i : Nat) (u : Value) : QS t25 t28 tx t64 w b A n c cs br q g1 g2 N (cr.setIfInBounds i u) cx M (wr.setCell ⟨br, i, none⟩ u) := by
  have hsr := h.src d (p := ⟨br, i, none⟩) (by have := d.b1; dsimp only; omega) u
  obtain ⟨b0, b1, b2, b3, b4, n1, n2, n3, n4, n5, n6, ab⟩ := d
  exact ⟨h.rb.set i u, blk_setF h.x n1.symm, h.o1.elim fun zs h => ⟨zs, own_setF h n2.symm⟩, h.o2.elim fun zs h => ⟨zs, own_setF h n3.symm⟩, blk_setF h.r1 (by omega), blk_setF h.r2 (by omega), hsr, set_grown h.g (by dsimp only; omega)⟩
theorem QS.setX4 {a0 a1 a2 a3 v0 v1 v2 v3 : Value} (h : QS t25 t28 tx t64 w b A n c cs br q g1 g2 N cr #[a0, a1, a2, a3] M wr) (d : QD w b A n br q g1 g2) : QS t25 t28 tx t64 w b A n c cs br q g1 g2 N cr #[v0, v1, v2, v3] M ((((wr.setCell ⟨q, 0, none⟩ v0).setCell ⟨q, 1, none⟩ v1).setCell ⟨q, 2, none⟩ v2).setCell ⟨q, 3, none⟩ v3) := by
  have x := (((h.setX d 0 v0).setX d 1 v1).setX d 2 v2).setX d 3 v3
  simpa only [List.setIfInBounds_toArray, List.set_cons_zero, List.set_cons_succ] using x
theorem QS.setR9 {a0 a1 a2 a3 a4 a5 a6 a7 a8 v0 v1 v2 v3 v4 v5 v6 v7 v8 : Value} (h : QS t25 t28 tx t64 w b A n c cs br q g1 g2 N #[a0, a1, a2, a3, a4, a5, a6, a7, a8] cx M wr) (d : QD w b A n br q g1 g2) : QS t25 t28 tx t64 w b A n c cs br q g1 g2 N #[v0, v1, v2, v3, v4, v5, v6, v7, v8] cx M (((((((((wr.setCell ⟨br, 0, none⟩ v0).setCell ⟨br, 1, none⟩ v1).setCell ⟨br, 2, none⟩ v2).setCell ⟨br, 3, none⟩ v3).setCell ⟨br, 4, none⟩ v4).setCell ⟨br, 5, none⟩ v5).setCell ⟨br, 6, none⟩ v6).setCell ⟨br, 7, none⟩ v7).setCell ⟨br, 8, none⟩ v8) := by
  have x := ((((((((h.setR d 0 v0).setR d 1 v1).setR d 2 v2).setR d 3 v3).setR d 4 v4).setR d 5 v5).setR d 6 v6).setR d 7 v7).setR d 8 v8
  simpa only [List.setIfInBounds_toArray, List.set_cons_zero, List.set_cons_succ] using x
/-- A new box takes the place of the old one. -/
theorem QS.fresh (h : QS t25 t28 tx t64 w b A n c cs br q g1 g2 N cr cx M wr) (ty : TypeId) (cy : Array Value) : QS t25 t28 ty t64 w b A n c cs br wr.heap.size g1 g2 N cr cy M (wr.alloc (.cells cy ty)) := by
  have hb : Below wr.heap.size wr (wr.alloc (.cells cy ty)) := Below.alloc (Below.refl _ _) (Nat.le_refl _) _
  exact ⟨h.rb.later hb, Blk.new _ _ _, h.o1.elim fun zs h => ⟨zs, h.later hb⟩, h.o2.elim fun zs h => ⟨zs, h.later hb⟩, h.r1.later hb, h.r2.later hb, h.s.later hb, grown_far h.g hb⟩
theorem QS.freshD (h : QS t25 t28 tx t64 w b A n c cs br q g1 g2 N cr cx M wr) (d : QD w b A n br q g1 g2) (hN : 0 < N) : QD w b A n br wr.heap.size g1 g2 := by
  have h1 := h.rb.lt
  have h3 := h.x.lt
  obtain ⟨zs, o1⟩ := h.o1
  obtain ⟨zs2, o2⟩ := h.o2
  have l1 := o1.lt hN
  have l2 := o2.lt (by omega)
  obtain ⟨b0, b1, b2, b3, b4, n1, n2, n3, n4, n5, n6, ab⟩ := d
  exact ⟨b0, b1, by omega, b3, b4, by omega, n2, n3, by omega, by omega, n6, ab⟩
/-- The pits from some place on. -/
theorem own_from {t : TypeId} {g : Nat} {zs : List Int} (h : OwnV wr g t 1 (some ⟨g, 0, none⟩) N (zs.map (Value.int .i64))) (d : Nat) (hd : d ≤ N) : Sl wr wr.heap.size 1 (some ⟨g, d, none⟩) (N - d) ((zs.drop d).map (Value.int .i64)) := by
  have hs := h.sl
  have hl := hs.ints
  refine ⟨by simp; omega, fun h0 => ?_⟩
  obtain ⟨b, off, e, hb, hc⟩ := hs.2 (by omega)
  injection e with e
  injection e with e1 e2
  subst e1 e2
  refine ⟨_, d, rfl, hb, fun j u hu => ?_⟩
  rw [List.map_drop, List.getElem?_drop] at hu
  have := hc _ _ hu
  rwa [Nat.zero_add] at this
end
theorem st4_blk {w : World} {q : Nat} {t : TypeId} {a0 a1 a2 a3 v0 v1 v2 v3 : Value} (h : Blk w q t #[a0, a1, a2, a3]) : Blk ((((w.setCell ⟨q, 0, none⟩ v0).setCell ⟨q, 1, none⟩ v1).setCell ⟨q, 2, none⟩ v2).setCell ⟨q, 3, none⟩ v3) q t #[v0, v1, v2, v3] := by
  have h : Blk (w.setCell ⟨q, 0, none⟩ v0) q t #[v0, a1, a2, a3] := by have x := h.set 0 v0; simpa only [List.setIfInBounds_toArray, List.set_cons_zero, List.set_cons_succ] using x
  have h : Blk ((w.setCell ⟨q, 0, none⟩ v0).setCell ⟨q, 1, none⟩ v1) q t #[v0, v1, a2, a3] := by have x := h.set 1 v1; simpa only [List.setIfInBounds_toArray, List.set_cons_zero, List.set_cons_succ] using x
  have h : Blk (((w.setCell ⟨q, 0, none⟩ v0).setCell ⟨q, 1, none⟩ v1).setCell ⟨q, 2, none⟩ v2) q t #[v0, v1, v2, a3] := by have x := h.set 2 v2; simpa only [List.setIfInBounds_toArray, List.set_cons_zero, List.set_cons_succ] using x
  have h : Blk ((((w.setCell ⟨q, 0, none⟩ v0).setCell ⟨q, 1, none⟩ v1).setCell ⟨q, 2, none⟩ v2).setCell ⟨q, 3, none⟩ v3) q t #[v0, v1, v2, v3] := by have x := h.set 3 v3; simpa only [List.setIfInBounds_toArray, List.set_cons_zero, List.set_cons_succ] using x
  exact h
theorem nine_keep {W : World} {x y g : Nat} {t t' : TypeId} {cs cs' : Array Value} {v0 v1 v2 v3 v4 v5 v6 v7 v8 : Value} (h : Blk W x t cs ∧ Blk W y t' cs') (h1 : x ≠ g) (h2 : y ≠ g) : Blk (((((((((W.setCell ⟨g, 0, none⟩ v0).setCell ⟨g, 1, none⟩ v1).setCell ⟨g, 2, none⟩ v2).setCell ⟨g, 3, none⟩ v3).setCell ⟨g, 4, none⟩ v4).setCell ⟨g, 5, none⟩ v5).setCell ⟨g, 6, none⟩ v6).setCell ⟨g, 7, none⟩ v7).setCell ⟨g, 8, none⟩ v8) x t cs ∧ Blk (((((((((W.setCell ⟨g, 0, none⟩ v0).setCell ⟨g, 1, none⟩ v1).setCell ⟨g, 2, none⟩ v2).setCell ⟨g, 3, none⟩ v3).setCell ⟨g, 4, none⟩ v4).setCell ⟨g, 5, none⟩ v5).setCell ⟨g, 6, none⟩ v6).setCell ⟨g, 7, none⟩ v7).setCell ⟨g, 8, none⟩ v8) y t' cs' := by
  constructor
  · repeat (refine blk_setF ?_ h1)
    exact h.1
  · repeat (refine blk_setF ?_ h2)
    exact h.2
theorem four_keep {W : World} {x y g : Nat} {t t' : TypeId} {cs cs' : Array Value} {v0 v1 v2 v3 : Value} (h : Blk W x t cs ∧ Blk W y t' cs') (h1 : x ≠ g) (h2 : y ≠ g) : Blk ((((W.setCell ⟨g, 0, none⟩ v0).setCell ⟨g, 1, none⟩ v1).setCell ⟨g, 2, none⟩ v2).setCell ⟨g, 3, none⟩ v3) x t cs ∧ Blk ((((W.setCell ⟨g, 0, none⟩ v0).setCell ⟨g, 1, none⟩ v1).setCell ⟨g, 2, none⟩ v2).setCell ⟨g, 3, none⟩ v3) y t' cs' := by
  constructor
  · repeat (refine blk_setF ?_ h1)
    exact h.1
  · repeat (refine blk_setF ?_ h2)
    exact h.2
theorem Blk.undrewB {w : World} {g : Nat} {t : TypeId} {cs : Array Value} (h : Blk w.drew g t cs) : Blk w g t cs := h
theorem nine_keepD {W : World} {x y g : Nat} {t t' : TypeId} {cs cs' : Array Value} {v0 v1 v2 v3 v4 v5 v6 v7 v8 : Value} (h : Blk W.drew x t cs ∧ Blk W.drew y t' cs') (h1 : x ≠ g) (h2 : y ≠ g) : Blk (((((((((W.setCell ⟨g, 0, none⟩ v0).setCell ⟨g, 1, none⟩ v1).setCell ⟨g, 2, none⟩ v2).setCell ⟨g, 3, none⟩ v3).setCell ⟨g, 4, none⟩ v4).setCell ⟨g, 5, none⟩ v5).setCell ⟨g, 6, none⟩ v6).setCell ⟨g, 7, none⟩ v7).setCell ⟨g, 8, none⟩ v8).drew x t cs ∧ Blk (((((((((W.setCell ⟨g, 0, none⟩ v0).setCell ⟨g, 1, none⟩ v1).setCell ⟨g, 2, none⟩ v2).setCell ⟨g, 3, none⟩ v3).setCell ⟨g, 4, none⟩ v4).setCell ⟨g, 5, none⟩ v5).setCell ⟨g, 6, none⟩ v6).setCell ⟨g, 7, none⟩ v7).setCell ⟨g, 8, none⟩ v8).drew y t' cs' := by
  have x := nine_keep (W := W) (g := g) (v0 := v0) (v1 := v1) (v2 := v2) (v3 := v3) (v4 := v4) (v5 := v5) (v6 := v6) (v7 := v7) (v8 := v8) ⟨Blk.undrewB h.1, Blk.undrewB h.2⟩ h1 h2
  exact ⟨Blk.drewB x.1, Blk.drewB x.2⟩
theorem four_keepD {W : World} {x y g : Nat} {t t' : TypeId} {cs cs' : Array Value} {v0 v1 v2 v3 : Value} (h : Blk W.drew x t cs ∧ Blk W.drew y t' cs') (h1 : x ≠ g) (h2 : y ≠ g) : Blk ((((W.setCell ⟨g, 0, none⟩ v0).setCell ⟨g, 1, none⟩ v1).setCell ⟨g, 2, none⟩ v2).setCell ⟨g, 3, none⟩ v3).drew x t cs ∧ Blk ((((W.setCell ⟨g, 0, none⟩ v0).setCell ⟨g, 1, none⟩ v1).setCell ⟨g, 2, none⟩ v2).setCell ⟨g, 3, none⟩ v3).drew y t' cs' := by
  have x := four_keep (W := W) (g := g) (v0 := v0) (v1 := v1) (v2 := v2) (v3 := v3) ⟨Blk.undrewB h.1, Blk.undrewB h.2⟩ h1 h2
  exact ⟨Blk.drewB x.1, Blk.drewB x.2⟩
end Go.Proofs.Ytcfbihponecblaa
