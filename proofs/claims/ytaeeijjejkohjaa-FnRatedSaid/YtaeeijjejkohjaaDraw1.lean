/- Draws of ratings: one of some numbers, a player, lists. Conditions: at most 2^20 bytes. -/
import Derived.Test.YtaeeijjejkohjaaSrc2
namespace Go.Proofs.Ytaeeijjejkohjaa
set_option linter.unusedSimpArgs false
set_option linter.unusedVariables false
open Go.RowKit Go.WideShapes

theorem Src.aBelow {w : World} {b n c M : Nat} {A : Option Addr} {zs : List Int} (h : Src w b A n c M zs) : ∀ b' off, A = some ⟨b', off, none⟩ → 0 < n → b' < w.heap.size := fun b' off e hn => by
  obtain ⟨b2, off2, e2, hb2, _⟩ := h.sl.2 hn
  rw [e] at e2
  injection e2 with e2
  injection e2 with e2
  omega
theorem Src.set {w : World} {b n c M : Nat} {A : Option Addr} {zs : List Int} (h : Src w b A n c M zs) (p : Addr) (u : Value) (hp : p.block ≠ b) (hA : ∀ b' off, A = some ⟨b', off, none⟩ → 0 < n → b' ≠ p.block) : Src (w.setCell p u) b A n c M zs :=
  h.over (row := some p.block) (only_setCell (World.grownBy.refl _ _) (.inl rfl) u) (fun e => hp (by injection e)) (fun b' off e hn e2 => hA b' off e hn (by injection e2 with e2; exact e2.symm))
theorem blk_over {w w' : World} {g : Nat} {t : TypeId} {cs : Array Value} {row : Option Nat} (h : Blk w g t cs) (hg : w.grownBy w' row) (hne : row ≠ some g) : Blk w' g t cs := (hg.block g h.lt (fun e => hne e.symm)).trans h
theorem grown_alloc {a w : World} {row : Option Nat} (h : a.grownBy w row) (o : Obj) : a.grownBy (w.alloc o) row := ⟨h.os, h.tape, h.output, Nat.le_trans h.size (sizeAlloc _ _), fun k hk hne => (Below.heap_alloc w o k (Nat.lt_of_lt_of_le hk h.size)).trans (h.block k hk hne)⟩
theorem grown_tr {a w w' : World} {row : Option Nat} (h1 : a.grownBy w row) (h2 : w.grownBy w' row) : a.grownBy w' row :=
  ⟨h2.os.trans h1.os, h2.tape.trans h1.tape, h2.output.trans h1.output, Nat.le_trans h1.size h2.size, fun k hk hne => (h2.block k (Nat.lt_of_lt_of_le hk h1.size) hne).trans (h1.block k hk hne)⟩
set_option maxHeartbeats 1000000 in
theorem among_any (b : Nat) (A : Option Addr) (n c M : Nat) (cs : List Int) (g m q : Nat) (zs : List Int) (w : World) (h : Src w b A n c M cs) (hn : n ≤ 1048576) (hM : M ≤ 999999998) (hl : Sl w w.heap.size 1 (some ⟨g, 0, none⟩) m (zs.map (Value.int .i64))) (hg : g ≠ b) (hm : 2 ≤ m) (hm2 : m ≤ 1000) :
    Calls Try.prog 57 #[.pointer (some ⟨b, 0, none⟩), .slice (some ⟨g, 0, none⟩) m q] w fun e w' => ∃ x : Int, e = .returned (.int .i64 x) ∧ x ∈ zs ∧ Src w' b A n c (M + 2) cs ∧ w.grownBy w' (some b) := by
  have HS := Lib.hid h
  have HL := Lib.hid hl
  have hlen := hl.ints
  clear h hl
  go_enter Try.func57, Try.ntmps57
  go_wp2_with fail
  refine (pick_any b A n c M cs (m : Nat) _ HS.out hn hM (by omega)).mono ?_
  rintro e w1 ⟨x, rfl, hx0, hx1, -, S1, g1⟩
  have hx2 := hx1 (by omega)
  obtain ⟨k, rfl⟩ := Int.eq_ofNat_of_zero_le hx0
  have hk : k < m := by omega
  obtain ⟨b2, off, z, e2, hb2, HZ, hc⟩ := HL.out.int hk
  injection e2 with e2
  injection e2 with e21 e22 _
  subst e21 e22
  have hc1 := g1.cell (a := ⟨g, 0 + k, none⟩) hc (by simpa using hg)
  have HS1 := Lib.hid S1
  have HG1 := Lib.hid g1
  have HM : Hid (z ∈ zs) := by
    unfold Hid
    rw [← HZ.out, List.getD_eq_getElem?_getD, List.getElem?_eq_getElem (by omega)]
    exact List.getElem_mem _
  rw [Nat.zero_add] at hc1
  clear S1 g1 hx1 hc
  go_wp2_with fail
  go_ret
  exact ⟨z, rfl, HM.out, HS1.out, HG1.out⟩
def DrP (b : Nat) (A : Option Addr) (n c M : Nat) (cs : List Int) (w : World) (e : Ending) (w' : World) : Prop :=
  ∃ r g : Int, e = .returned (.agg #[.int .i64 r, .int .i64 g]) ∧ -1 ≤ r ∧ r ≤ 4001 ∧ -1 ≤ g ∧ g ≤ 1000001 ∧ Src w' b A n c (M + 8) cs ∧ w.grownBy w' (some b)
set_option maxRecDepth 4000 in
set_option maxHeartbeats 4000000 in
theorem l25Draw_any (b : Nat) (A : Option Addr) (n c M : Nat) (cs : List Int) (w : World) (h : Src w b A n c M cs) (hn : n ≤ 1048576) (hM : M ≤ 999999000) :
    Calls Try.prog 45 #[.pointer (some ⟨b, 0, none⟩)] w (DrP b A n c M cs w) := by
  have HAB := Lib.hid h.aBelow
  have hbl := h.lt
  have K0 := Lib.hid (Blk.new w 24 #[.int .i64 0, .int .i64 0])
  have HS0 := Lib.hid (h.later (Below.alloc (Below.refl _ _) (Nat.le_refl _) (.cells #[.int .i64 0, .int .i64 0] 24)))
  clear h
  go_enter Try.func45, Try.ntmps45
  go_wp2_with fail
  refine (pick_any b A n c M cs 1200 _ HS0.out hn (by omega) (by omega)).mono ?_
  rintro e w1 ⟨x, rfl, hx0, hx1, -, S1, g1⟩
  have hx2 := hx1 (by omega)
  have HS1 := Lib.hid S1
  have HG1 := Lib.hid (grown_tr (grown_alloc (World.grownBy.refl _ _) (.cells #[.int .i64 0, .int .i64 0] 24)) g1)
  have K1 := Lib.hid (blk_over K0.out g1 (by intro e; injection e with e; omega))
  clear S1 g1 hx1
  go_wp2_with fail
  refine (pick_any b A n c (M + 2) cs 20 _ HS1.out hn (by omega) (by omega)).mono ?_
  rintro e w2 ⟨y, rfl, hy0, hy1, -, S2, g2⟩
  have hy2 := hy1 (by omega)
  have HG2 := Lib.hid (grown_tr HG1.out g2)
  have K2 := Lib.hid (blk_over K1.out g2 (by intro e; injection e with e; omega))
  have HS2 := Lib.hid (S2.later (Below.alloc (Below.refl _ _) (Nat.le_refl _) (.cells #[.int .i64 (1200 + x), .int .i64 y] 24)))
  have X2 := Lib.hid (Blk.new w2 24 #[.int .i64 (1200 + x), .int .i64 y])
  have z2 := HG2.out.size
  have z2' := K2.out.lt
  clear S2 g2 hy1
  go_wp2_with fail
  refine (pick_any b A n c (M + 4) cs 24 _ HS2.out hn (by omega) (by omega)).mono ?_
  rintro e w3 ⟨z, rfl, hz0, hz1, -, S3, g3⟩
  have HS3 := Lib.hid S3
  have HG3 := Lib.hid (grown_tr (grown_alloc HG2.out (.cells #[.int .i64 (1200 + x), .int .i64 y] 24)) g3)
  have K3 := Lib.hid (blk_over (K2.out.later (Below.alloc (Below.refl _ _) (Nat.le_refl _) (.cells #[.int .i64 (1200 + x), .int .i64 y] 24))) g3 (by intro e; injection e with e; omega))
  have X3 := Lib.hid (blk_over X2.out g3 (by intro e; injection e with e; omega))
  have z3 := HG3.out.size
  have z3' := X3.out.lt
  clear S3 g3 hz1
  by_cases hz : z = 0
  case pos =>
    subst hz
    have HS4 : Hid (Src (w3.alloc (.cells (([-1, 0, 4000, 4001, 1999, 2000, 5] : List Int).map (Value.int .i64)).toArray 2)) b A n c (M + 6) cs) := HS3.out.later (Below.alloc (Below.refl _ _) (Nat.le_refl _) _)
    have HL : Hid (Sl (w3.alloc (.cells (([-1, 0, 4000, 4001, 1999, 2000, 5] : List Int).map (Value.int .i64)).toArray 2)) (w3.alloc (.cells (([-1, 0, 4000, 4001, 1999, 2000, 5] : List Int).map (Value.int .i64)).toArray 2)).heap.size 1 (some ⟨w3.heap.size, 0, none⟩) 7 (([-1, 0, 4000, 4001, 1999, 2000, 5] : List Int).map (Value.int .i64))) := Sl.built rfl (by simp) (by rfl)
    go_wp2_with fail
    refine (among_any b A n c (M + 6) cs w3.heap.size 7 7 [-1, 0, 4000, 4001, 1999, 2000, 5] _ HS4.out hn (by omega) HL.out (by omega) (by omega) (by omega)).mono ?_
    rintro e w4 ⟨v, rfl, hv, S4, g4⟩
    have hv2 : -1 ≤ v ∧ v ≤ 4001 := by simp at hv; omega
    have HS5 := Lib.hid S4
    have HG4 := Lib.hid (grown_tr (grown_alloc HG3.out _) g4)
    have K4 := Lib.hid (blk_over (K3.out.later (Below.alloc (Below.refl _ _) (Nat.le_refl _) _)) g4 (by intro e; injection e with e; omega))
    have X4 := Lib.hid (blk_over (X3.out.later (Below.alloc (Below.refl _ _) (Nat.le_refl _) _)) g4 (by intro e; injection e with e; omega))
    clear S4 g4 hv
    have k0 := K4.out.cell 0
    have k1 := K4.out.cell 1
    have f0 := K4.out.free 0
    have f1 := K4.out.free 1
    have x0 := X4.out.cell 0
    have x1 := X4.out.cell 1
    have xf := X4.out.free 0
    go_wp2_with fail
    (try simp only [Exit.inBlock, Exit.then])
    refine bodyPost_ret (by simp [results, Try.results45, go_sem, k0, k1, f0, f1, x0, x1, xf]; try rfl) rfl ?_
    refine ⟨v, y, rfl, by omega, by omega, by omega, by omega, ?_, ?_⟩
    · exact ((((HS5.out.mono (by omega)).set _ _ (by show w2.heap.size ≠ b; omega) (fun b' off e h => by have := HAB.out b' off e h; show b' ≠ w2.heap.size; omega)).set _ _ (by show w.heap.size ≠ b; omega) (fun b' off e h => by have := HAB.out b' off e h; show b' ≠ w.heap.size; omega)).set _ _ (by show w.heap.size ≠ b; omega) (fun b' off e h => by have := HAB.out b' off e h; show b' ≠ w.heap.size; omega))
    · exact only_setCell (only_setCell (only_setCell HG4.out (.inr (by show w.heap.size ≤ w2.heap.size; omega)) _) (.inr (Nat.le_refl _)) _) (.inr (Nat.le_refl _)) _
  case neg =>
  by_cases hz2 : z = 1
  case pos =>
    subst hz2
    have HS4 : Hid (Src (w3.alloc (.cells (([-1, 9, 10, 1000000, 1000001] : List Int).map (Value.int .i64)).toArray 2)) b A n c (M + 6) cs) := HS3.out.later (Below.alloc (Below.refl _ _) (Nat.le_refl _) _)
    have HL : Hid (Sl (w3.alloc (.cells (([-1, 9, 10, 1000000, 1000001] : List Int).map (Value.int .i64)).toArray 2)) (w3.alloc (.cells (([-1, 9, 10, 1000000, 1000001] : List Int).map (Value.int .i64)).toArray 2)).heap.size 1 (some ⟨w3.heap.size, 0, none⟩) 5 (([-1, 9, 10, 1000000, 1000001] : List Int).map (Value.int .i64))) := Sl.built rfl (by simp) (by rfl)
    go_wp2_with fail
    refine (among_any b A n c (M + 6) cs w3.heap.size 5 5 [-1, 9, 10, 1000000, 1000001] _ HS4.out hn (by omega) HL.out (by omega) (by omega) (by omega)).mono ?_
    rintro e w4 ⟨v, rfl, hv, S4, g4⟩
    have hv2 : -1 ≤ v ∧ v ≤ 1000001 := by simp at hv; omega
    have HS5 := Lib.hid S4
    have HG4 := Lib.hid (grown_tr (grown_alloc HG3.out _) g4)
    have K4 := Lib.hid (blk_over (K3.out.later (Below.alloc (Below.refl _ _) (Nat.le_refl _) _)) g4 (by intro e; injection e with e; omega))
    have X4 := Lib.hid (blk_over (X3.out.later (Below.alloc (Below.refl _ _) (Nat.le_refl _) _)) g4 (by intro e; injection e with e; omega))
    clear S4 g4 hv
    have k0 := K4.out.cell 0
    have k1 := K4.out.cell 1
    have f0 := K4.out.free 0
    have f1 := K4.out.free 1
    have x0 := X4.out.cell 0
    have x1 := X4.out.cell 1
    have xf := X4.out.free 1
    go_wp2_with fail
    (try simp only [Exit.inBlock, Exit.then])
    refine bodyPost_ret (by simp [results, Try.results45, go_sem, k0, k1, f0, f1, x0, x1, xf]; try rfl) rfl ?_
    refine ⟨1200 + x, v, rfl, by omega, by omega, by omega, by omega, ?_, ?_⟩
    · exact ((((HS5.out.mono (by omega)).set _ _ (by show w2.heap.size ≠ b; omega) (fun b' off e h => by have := HAB.out b' off e h; show b' ≠ w2.heap.size; omega)).set _ _ (by show w.heap.size ≠ b; omega) (fun b' off e h => by have := HAB.out b' off e h; show b' ≠ w.heap.size; omega)).set _ _ (by show w.heap.size ≠ b; omega) (fun b' off e h => by have := HAB.out b' off e h; show b' ≠ w.heap.size; omega))
    · exact only_setCell (only_setCell (only_setCell HG4.out (.inr (by show w.heap.size ≤ w2.heap.size; omega)) _) (.inr (Nat.le_refl _)) _) (.inr (Nat.le_refl _)) _
  case neg =>
    have hzb : (z == 0) = false := by rw [beq_eq_false_iff_ne]; exact hz
    have hzc : (z == 1) = false := by rw [beq_eq_false_iff_ne]; exact hz2
    clear hz hz2
    have k0 := K3.out.cell 0
    have k1 := K3.out.cell 1
    have f0 := K3.out.free 0
    have f1 := K3.out.free 1
    have x0 := X3.out.cell 0
    have x1 := X3.out.cell 1
    go_wp2_with fail
    (try simp only [Exit.inBlock, Exit.then])
    refine bodyPost_ret (by simp [results, Try.results45, go_sem, k0, k1, f0, f1, x0, x1]; try rfl) rfl ?_
    refine ⟨1200 + x, y, rfl, by omega, by omega, by omega, by omega, ?_, ?_⟩
    · exact (((HS3.out.mono (by omega)).set _ _ (by show w.heap.size ≠ b; omega) (fun b' off e h => by have := HAB.out b' off e h; show b' ≠ w.heap.size; omega)).set _ _ (by show w.heap.size ≠ b; omega) (fun b' off e h => by have := HAB.out b' off e h; show b' ≠ w.heap.size; omega))
    · exact only_setCell (only_setCell HG3.out (.inr (Nat.le_refl _)) _) (.inr (Nat.le_refl _)) _
end Go.Proofs.Ytaeeijjejkohjaa
