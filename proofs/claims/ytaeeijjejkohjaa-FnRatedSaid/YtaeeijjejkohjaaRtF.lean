/- The draw of a rated game. Conditions: at most 2^20 bytes. -/
import Derived.Test.YtaeeijjejkohjaaRtD
namespace Go.Proofs.Ytaeeijjejkohjaa
set_option linter.unusedSimpArgs false
set_option linter.unusedVariables false
open Go.RowKit Go.WideShapes Go.ChangeShapes

theorem four_keep {W W' : World} {a b : Nat} {r : Option Nat} {u0 u1 u2 u3 : Value} (h : (W.cell? ⟨a, 0, none⟩ = some u0 ∧ W.cell? ⟨a, 1, none⟩ = some u1) ∧ (W.cell? ⟨b, 0, none⟩ = some u2 ∧ W.cell? ⟨b, 1, none⟩ = some u3)) (hg : W.grownBy W' r) (n1 : some a ≠ r) (n2 : some b ≠ r) : (W'.cell? ⟨a, 0, none⟩ = some u0 ∧ W'.cell? ⟨a, 1, none⟩ = some u1) ∧ (W'.cell? ⟨b, 0, none⟩ = some u2 ∧ W'.cell? ⟨b, 1, none⟩ = some u3) := ⟨⟨hg.cell h.1.1 n1, hg.cell h.1.2 n1⟩, ⟨hg.cell h.2.1 n2, hg.cell h.2.2 n2⟩⟩
theorem four_drew {W : World} {a b : Nat} {u0 u1 u2 u3 : Value} (h : (W.cell? ⟨a, 0, none⟩ = some u0 ∧ W.cell? ⟨a, 1, none⟩ = some u1) ∧ (W.cell? ⟨b, 0, none⟩ = some u2 ∧ W.cell? ⟨b, 1, none⟩ = some u3)) : (W.drew.cell? ⟨a, 0, none⟩ = some u0 ∧ W.drew.cell? ⟨a, 1, none⟩ = some u1) ∧ (W.drew.cell? ⟨b, 0, none⟩ = some u2 ∧ W.drew.cell? ⟨b, 1, none⟩ = some u3) := h
theorem four_set {W : World} {a b h : Nat} {u0 u1 u2 u3 : Value} (hh : (W.cell? ⟨a, 0, none⟩ = some u0 ∧ W.cell? ⟨a, 1, none⟩ = some u1) ∧ (W.cell? ⟨b, 0, none⟩ = some u2 ∧ W.cell? ⟨b, 1, none⟩ = some u3)) (k l : Nat) (v v' : Value) (_ : True) (n1 : a ≠ h) (n2 : b ≠ h) : (((W.setCell ⟨h, k, none⟩ v).setCell ⟨h, l, none⟩ v').cell? ⟨a, 0, none⟩ = some u0 ∧ ((W.setCell ⟨h, k, none⟩ v).setCell ⟨h, l, none⟩ v').cell? ⟨a, 1, none⟩ = some u1) ∧ (((W.setCell ⟨h, k, none⟩ v).setCell ⟨h, l, none⟩ v').cell? ⟨b, 0, none⟩ = some u2 ∧ ((W.setCell ⟨h, k, none⟩ v).setCell ⟨h, l, none⟩ v').cell? ⟨b, 1, none⟩ = some u3) :=
  have h1 : W.grownBy (W.setCell ⟨h, k, none⟩ v) (some h) := only_setCell (World.grownBy.refl _ _) (.inl rfl) v
  have h2 : W.grownBy ((W.setCell ⟨h, k, none⟩ v).setCell ⟨h, l, none⟩ v') (some h) := only_setCell h1 (.inl rfl) v'
  four_keep (r := some h) hh h2 (by intro e; injection e with e; exact n1 e) (by intro e; injection e with e; exact n2 e)
theorem res4_st {w1 : World} {g h : Nat} {t t' : TypeId} {u0 u1 u2 u3 : Value} (K : Blk w1 g t #[u0, u1]) (L : Blk w1 h t' #[u2, u3]) (hne : g ≠ h) (v0 v1 v2 v3 : Value) : Blk ((((w1.setCell ⟨g, 0, none⟩ v0).setCell ⟨g, 1, none⟩ v1).setCell ⟨h, 0, none⟩ v2).setCell ⟨h, 1, none⟩ v3) g t #[v0, v1] ∧ Blk ((((w1.setCell ⟨g, 0, none⟩ v0).setCell ⟨g, 1, none⟩ v1).setCell ⟨h, 0, none⟩ v2).setCell ⟨h, 1, none⟩ v3) h t' #[v2, v3] :=
  ⟨((((K.set 0 v0).set 1 v1).setO _ hne).setO _ hne), ((((L.setO (p := ⟨g, 0, none⟩) _ (Ne.symm hne)).setO (p := ⟨g, 1, none⟩) _ (Ne.symm hne)).set 0 v2).set 1 v3)⟩
def RgD (w : World) (e : Ending) (w' : World) : Prop := ∃ r g r2 g2 s : Int, e = .returned (.tuple #[.agg #[.int .i64 r, .int .i64 g], .agg #[.int .i64 r2, .int .i64 g2], .int .i64 s]) ∧ -100 ≤ s ∧ s ≤ 100 ∧ Below w.heap.size w w'
set_option maxHeartbeats 4000000 in
theorem DrawRateGame_any (A : Option Addr) (n c : Nat) (cs : List Int) (w : World) (hs : Sl w w.heap.size 1 A n (cs.map (Value.int .u8))) (hc : ∀ z ∈ cs, 0 ≤ z ∧ z ≤ 255) (hn : n ≤ 1048576) :
    Calls Try.prog 21 #[.slice A n c] w (RgD w) := by
  have K0 := Lib.hid ((Blk.new w 24 #[.int .i64 0, .int .i64 0]).later (boxed2' _ (.cells #[.int .i64 0, .int .i64 0] 24)))
  have J0 := Lib.hid (Blk.new (w.alloc (.cells #[.int .i64 0, .int .i64 0] 24)) 24 #[.int .i64 0, .int .i64 0])
  have BA := Lib.hid (Below.alloc (Below.alloc (Below.refl w.heap.size w) (Nat.le_refl _) (.cells #[.int .i64 0, .int .i64 0] 24)) (sizeAlloc _ _) (.cells #[.int .i64 0, .int .i64 0] 24))
  have HS := Lib.hid (hs.later BA.out)
  have HC := Lib.hid hc
  have hz0 := BA.out.size
  have hsz : ((w.alloc (.cells #[.int .i64 0, .int .i64 0] 24)).alloc (.cells #[.int .i64 0, .int .i64 0] 24)).heap.size = w.heap.size + 1 + 1 := by simp
  have hsz1 : (w.alloc (.cells #[.int .i64 0, .int .i64 0] 24)).heap.size = w.heap.size + 1 := by simp
  rw [hsz1] at J0
  clear hs hc
  go_enter Try.func21, Try.ntmps21
  go_wp2_with fail
  refine (l00From_any A n c cs _ HS.out HC.out).mono ?_
  rintro e w1 ⟨b, rfl, hb, S1, hb1⟩
  have HS1 := Lib.hid S1
  have HB1 := Lib.hid (Below.via hb1 BA.out hz0)
  have K1 := Lib.hid (K0.out.later hb1)
  have J1 := Lib.hid (J0.out.later hb1)
  have z1 := HB1.out.size
  rw [hsz] at hb
  clear S1 hb1 hz0 hsz hsz1
  go_wp2_with fail
  refine (l25Draw_any b A n c 0 cs _ HS1.out hn (by omega)).mono ?_
  rintro e w2 ⟨r, g, rfl, hr0, hr1, hg0, hg1, S2, g2⟩
  have HB2 := Lib.hid (Below.alloc (below_src HB1.out g2 (by omega) z1) (Nat.le_trans z1 g2.size) (.cells #[.int .i64 r, .int .i64 g] 24))
  have K2 := Lib.hid ((blk_over K1.out g2 (by intro e; injection e with e; omega)).later (boxed2' _ (.cells #[.int .i64 r, .int .i64 g] 24)))
  have J2 := Lib.hid ((blk_over J1.out g2 (by intro e; injection e with e; omega)).later (boxed2' _ (.cells #[.int .i64 r, .int .i64 g] 24)))
  have X2 := Lib.hid (Blk.new w2 24 #[.int .i64 r, .int .i64 g])
  have HS2 := Lib.hid (S2.later (boxed2' _ (.cells #[.int .i64 r, .int .i64 g] 24)))
  have l2 := S2.lt
  have z2 := HB2.out.size
  have jl := (blk_over J1.out g2 (by intro e; injection e with e; omega)).lt
  clear S2 g2
  go_wp2_with fail
  refine (l25Draw_any b A n c (0 + 8) cs _ HS2.out hn (by omega)).mono ?_
  rintro e w3 ⟨r2, q2, rfl, hr20, hr21, hg20, hg21, S3, g3⟩
  have hg3 := g3.size
  have HB3 := Lib.hid (Below.alloc (below_src HB2.out g3 (by omega) z2) (Nat.le_trans z2 g3.size) (.cells #[.int .i64 r2, .int .i64 q2] 24))
  have K3 := Lib.hid ((blk_over K2.out g3 (by intro e; injection e with e; omega)).later (boxed2' _ (.cells #[.int .i64 r2, .int .i64 q2] 24)))
  have J3 := Lib.hid ((blk_over J2.out g3 (by intro e; injection e with e; omega)).later (boxed2' _ (.cells #[.int .i64 r2, .int .i64 q2] 24)))
  have X3 := Lib.hid ((blk_over X2.out g3 (by intro e; injection e with e; omega)).later (boxed2' _ (.cells #[.int .i64 r2, .int .i64 q2] 24)))
  have Y3 := Lib.hid (Blk.new w3 24 #[.int .i64 r2, .int .i64 q2])
  have HS3 := Lib.hid (S3.later (boxed2' _ (.cells #[.int .i64 r2, .int .i64 q2] 24)))
  have l3 := S3.lt
  have z3 := HB3.out.size
  have xl := (blk_over X2.out g3 (by intro e; injection e with e; omega)).lt
  clear S3 g3
  have hS0 : ((w3.alloc (.cells #[.int .i64 r2, .int .i64 q2] 24)).cell? ⟨w2.heap.size, 0, none⟩ = some (.int .i64 r) ∧ (w3.alloc (.cells #[.int .i64 r2, .int .i64 q2] 24)).cell? ⟨w2.heap.size, 1, none⟩ = some (.int .i64 g)) ∧ ((w3.alloc (.cells #[.int .i64 r2, .int .i64 q2] 24)).cell? ⟨w3.heap.size, 0, none⟩ = some (.int .i64 r2) ∧ (w3.alloc (.cells #[.int .i64 r2, .int .i64 q2] 24)).cell? ⟨w3.heap.size, 1, none⟩ = some (.int .i64 q2)) := ⟨⟨X3.out.cell 0, X3.out.cell 1⟩, ⟨Y3.out.cell 0, Y3.out.cell 1⟩⟩
  have HSd : Hid (Src (w3.alloc (.cells #[.int .i64 r2, .int .i64 q2] 24)).drew b A n c (0 + 8 + 8) cs) := src_dr HS3.out 1
  have hbw2 : some w2.heap.size ≠ some b := by intro e; injection e with e; omega
  have hbw3 : some w3.heap.size ≠ some b := by intro e; injection e with e; omega
  have hbk : (some b : Option Nat) ≠ some w.heap.size := by intro e; injection e with e; omega
  have hbj : (some b : Option Nat) ≠ some (w.heap.size + 1) := by intro e; injection e with e; omega
  go_wp2_with fail
  go_region_held3 (fun W => (W.cell? ⟨w2.heap.size, 0, none⟩ = some (.int .i64 r) ∧ W.cell? ⟨w2.heap.size, 1, none⟩ = some (.int .i64 g)) ∧ (W.cell? ⟨w3.heap.size, 0, none⟩ = some (.int .i64 r2) ∧ W.cell? ⟨w3.heap.size, 1, none⟩ = some (.int .i64 q2))) (first | (with_reducible exact four_drew hS0) | (with_reducible exact four_keep (by with_reducible assumption) (by with_reducible assumption) hbw2 hbw3) | (with_reducible assumption) | (exact four_set (by with_reducible assumption) _ _ _ _ trivial (by omega) (by omega))) (first
    | (go_at_call 47; (with_reducible refine Calls.mono (pick_any b A n c (0 + 8 + 8) cs 30 _ HSd.out hn (by omega) (by omega)) ?_); rintro e w4 ⟨x, rfl, hx0, hx1, -, S4, g4⟩; have hx9 := hx1 (by omega); have hd4 : IntKind.i64.wrap (x.tdiv 10) = x / 10 := (by rw [Int.tdiv_eq_ediv_of_nonneg hx0]; exact IntWalk.i64_in _ (by omega)); have HS4 := Lib.hid S4; have K4 := Lib.hid (blk_over K3.out.dr g4 hbk); have J4 := Lib.hid (blk_over J3.out.dr g4 hbj); have B4 := Lib.hid (below_src (belowDrewN HB3.out 1) g4 (by omega) z3); have z4 := B4.out.size; clear hx1 S4)
    | (go_at_call 47; (with_reducible refine Calls.mono (pick_any b A n c (0 + 8 + 8 + 2) cs 30 _ HS4.out hn (by omega) (by omega)) ?_); rintro e w5 ⟨y, rfl, hy0, hy1, -, S5, g5⟩; have hy9 := hy1 (by omega); have hd5 : IntKind.i64.wrap (y.tdiv 29) = y / 29 := (by rw [Int.tdiv_eq_ediv_of_nonneg hy0]; exact IntWalk.i64_in _ (by omega)); have hw5 : IntKind.i64.wrap (x / 10 + y / 29) = x / 10 + y / 29 := IntWalk.i64_in _ (by omega); have HS5 := Lib.hid S5; have K5 := Lib.hid (blk_over K4.out g5 hbk); have J5 := Lib.hid (blk_over J4.out g5 hbj); have B5 := Lib.hid (below_src B4.out g5 (by omega) z4); have z5 := B5.out.size; clear hy1 S5)
    | (go_at_call 47; (with_reducible refine Calls.mono (pick_any b A n c (0 + 8 + 8 + 2 + 2) cs 30 _ HS5.out hn (by omega) (by omega)) ?_); rintro e w6 ⟨z, rfl, hv0, hv1, -, S6, g6⟩; have hv9 := hv1 (by omega); have hd6 : IntKind.i64.wrap (z.tdiv 29) = z / 29 := (by rw [Int.tdiv_eq_ediv_of_nonneg hv0]; exact IntWalk.i64_in _ (by omega)); have hw6 : IntKind.i64.wrap (x / 10 + y / 29 - z / 29) = x / 10 + y / 29 - z / 29 := IntWalk.i64_in _ (by omega); have K6 := Lib.hid (blk_over K5.out g6 hbk); have J6 := Lib.hid (blk_over J5.out g6 hbj); have B6 := Lib.hid (below_src B5.out g6 (by omega) z5); have hq := res4_st K6.out J6.out (by omega) (.int .i64 r) (.int .i64 g) (.int .i64 r2) (.int .i64 q2); have k0 := K6.out.cell 0; have k1 := K6.out.cell 1; have kf0 := K6.out.free 0; have kf1 := K6.out.free 1; have j0 := J6.out.cell 0; have j1 := J6.out.cell 1; have jf0 := J6.out.free 0; have jf1 := J6.out.free 1; clear hv1 S6))
  all_goals
    go_wp2_with fail
    (try simp only [Exit.inBlock, Exit.then])
    obtain ⟨qa, qb⟩ := hq
    have c0 := qa.cell 0
    have c1 := qa.cell 1
    have c2 := qb.cell 0
    have c3 := qb.cell 1
    refine bodyPost_ret (by simp [results, Try.results21, go_sem, c0, c1, c2, c3]; try rfl) rfl ?_
    exact ⟨r, g, r2, q2, _, rfl, by omega, by omega, (((B6.out.setCell (Nat.le_refl _) _).setCell (Nat.le_refl _) _).setCell (by simp) _).setCell (by simp) _⟩
end Go.Proofs.Ytaeeijjejkohjaa
