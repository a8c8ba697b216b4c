/- Draws for expectations: scores, sums, performances. Conditions: at most 2^20 bytes. -/
import Derived.Test.YtaeeijjejkohjaaDraw2
namespace Go.Proofs.Ytaeeijjejkohjaa
set_option linter.unusedSimpArgs false
set_option linter.unusedVariables false
open Go.RowKit Go.WideShapes Go.ChangeShapes

def TwoP (w : World) (e : Ending) (w' : World) : Prop := ∃ a b : Int, e = .returned (.tuple #[.int .i64 a, .int .i64 b]) ∧ -1000 ≤ a ∧ a ≤ 10000 ∧ -1000 ≤ b ∧ b ≤ 10000 ∧ Below w.heap.size w w'
def SumP (w : World) (e : Ending) (w' : World) : Prop := ∃ (r : Int) (zs : List Int) (v : Value), e = .returned (.tuple #[.int .i64 r, v]) ∧ -1000 ≤ r ∧ r ≤ 10000 ∧ w'.ownsRow w.heap.size 2 1 v zs.length (zs.map (Value.int .i64)) ∧ zs.length ≤ 101 ∧ Below w.heap.size w w'
def PerP (w : World) (e : Ending) (w' : World) : Prop := ∃ (s : Int) (zs : List Int) (v : Value), e = .returned (.tuple #[v, .int .i64 s]) ∧ -1000 ≤ s ∧ s ≤ 10000 ∧ w'.ownsRow w.heap.size 2 1 v zs.length (zs.map (Value.int .i64)) ∧ zs.length ≤ 101 ∧ Below w.heap.size w w'
theorem own_base {w : World} {base base' : Nat} {e : TypeId} {size : Nat} {v : Value} {n : Nat} {xs : List Value} (h : w.ownsRow base e size v n xs) (hb : base' ≤ base) : w.ownsRow base' e size v n xs := by
  refine ⟨h.1, ?_⟩
  rcases h.2 with h2 | ⟨g, cap, cur, h1, h2, h3⟩
  · exact Or.inl h2
  · exact Or.inr ⟨g, cap, cur, h1, Nat.le_trans hb h2, h3⟩
set_option maxHeartbeats 4000000 in
theorem DrawExpectedScore_any (A : Option Addr) (n c : Nat) (cs : List Int) (w : World) (hs : Sl w w.heap.size 1 A n (cs.map (Value.int .u8))) (hc : ∀ z ∈ cs, 0 ≤ z ∧ z ≤ 255) (hn : n ≤ 1048576) :
    Calls Try.prog 12 #[.slice A n c] w (TwoP w) := by
  have HS := Lib.hid hs
  have HC := Lib.hid hc
  clear hs hc
  go_enter Try.func12, Try.ntmps12
  go_wp2_with fail
  refine (l00From_any A n c cs w HS.out HC.out).mono ?_
  rintro e w1 ⟨b, rfl, hb, S1, hb1⟩
  have HS1 := Lib.hid S1
  have HB1 := Lib.hid hb1
  have z1 := hb1.size
  clear S1 hb1
  go_wp2_with fail
  refine (l25Draw_any b A n c 0 cs _ HS1.out hn (by omega)).mono ?_
  rintro e w2 ⟨r, g, rfl, hr0, hr1, hg0, hg1, S2, g2⟩
  have HS2 := Lib.hid (S2.later (Below.alloc (Below.refl _ _) (Nat.le_refl _) (.cells #[.int .i64 r, .int .i64 g] 24)))
  have HB2 := Lib.hid (Below.alloc (below_src HB1.out g2 hb z1) (Nat.le_trans z1 g2.size) (.cells #[.int .i64 r, .int .i64 g] 24))
  have X2 := Lib.hid (Blk.new w2 24 #[.int .i64 r, .int .i64 g])
  have z2 := g2.size
  have l1 := HS1.out.lt
  clear S2 g2
  go_wp2_with fail
  refine (one_any b A n c (0 + 8) cs 2 _ HS2.out hn (by omega) (by omega)).mono ?_
  rintro e w3 ⟨q, rfl, S3, g3⟩
  have HS3 := Lib.hid S3
  have HB3 := Lib.hid (below_src HB2.out g3 hb HB2.out.size)
  have X3 := Lib.hid (blk_over X2.out g3 (by intro e; injection e with e; omega))
  have z3 := HB3.out.size
  have l3 := X3.out.lt
  clear S3 g3
  cases q
  case true =>
    have x0 := X3.out.cell 0
    have HSd : Hid (Src w3.drew b A n c (0 + 8 + 2) cs) := src_dr HS3.out 1
    go_wp2_with fail
    go_region_with (go_at_call 47; refine (pick_any b A n c (0 + 8 + 2) cs 900 _ HSd.out hn (by omega) (by omega)).mono ?_; rintro e w4 ⟨x, rfl, hx0, hx1, -, S4, g4⟩; have hx9 := hx1 (by omega); have hw1 : IntKind.i64.wrap (r + x) = r + x := IntWalk.i64_in _ (by omega); have hw2 : IntKind.i64.wrap (r + x - 450) = r + x - 450 := IntWalk.i64_in _ (by omega); have x0' := (blk_over (show Blk w3.drew w2.heap.size 24 #[.int .i64 r, .int .i64 g] from X3.out) g4 (by intro e; injection e with e; omega)).cell 0; have B4 := Lib.hid (below_src (belowDrewN HB3.out 1) g4 hb HB3.out.size); clear hx1 S4 g4)
    all_goals
      go_wp2_with fail
      go_ret2
      first | exact ⟨r, r + x - 450, rfl, by omega, by omega, by omega, by omega, B4.out⟩ | exact ⟨r, r + x - 450, by rw [hw1, hw2]; rfl, by omega, by omega, by omega, by omega, B4.out⟩
  case false =>
    go_wp2_with fail
    refine (l25Draw_any b A n c (0 + 8 + 2) cs _ HS3.out hn (by omega)).mono ?_
    rintro e w4 ⟨r2, g2, rfl, hr20, hr21, _, _, S4, g4⟩
    have X4 := Lib.hid ((blk_over X3.out g4 (by intro e; injection e with e; omega)).later (Below.alloc (Below.refl _ _) (Nat.le_refl _) (.cells #[.int .i64 r2, .int .i64 g2] 24)))
    have Y4 := Lib.hid (Blk.new w4 24 #[.int .i64 r2, .int .i64 g2])
    have HB4 := Lib.hid (Below.alloc (below_src HB3.out g4 hb z3) (Nat.le_trans z3 g4.size) (.cells #[.int .i64 r2, .int .i64 g2] 24))
    have x0 := X4.out.cell 0
    have y0 := Y4.out.cell 0
    clear S4 g4
    go_wp2_with fail
    go_region
    go_wp2_with fail
    go_ret2
    exact ⟨r, r2, rfl, by omega, by omega, by omega, by omega, belowDrewN HB4.out _⟩
set_option maxHeartbeats 4000000 in
theorem DrawSumExpected_any (A : Option Addr) (n c : Nat) (cs : List Int) (w : World) (hs : Sl w w.heap.size 1 A n (cs.map (Value.int .u8))) (hc : ∀ z ∈ cs, 0 ≤ z ∧ z ≤ 255) (hn : n ≤ 1048576) :
    Calls Try.prog 15 #[.slice A n c] w (SumP w) := by
  have HS := Lib.hid hs
  have HC := Lib.hid hc
  clear hs hc
  go_enter Try.func15, Try.ntmps15
  go_wp2_with fail
  refine (l00From_any A n c cs w HS.out HC.out).mono ?_
  rintro e w1 ⟨b, rfl, hb, S1, hb1⟩
  have HS1 := Lib.hid S1
  have HB1 := Lib.hid hb1
  have z1 := hb1.size
  clear S1 hb1
  go_wp2_with fail
  refine (l25Draw_any b A n c 0 cs _ HS1.out hn (by omega)).mono ?_
  rintro e w2 ⟨r, g, rfl, hr0, hr1, hg0, hg1, S2, g2⟩
  have HS2 := Lib.hid (S2.later (Below.alloc (Below.refl _ _) (Nat.le_refl _) (.cells #[.int .i64 r, .int .i64 g] 24)))
  have HB2 := Lib.hid (Below.alloc (below_src HB1.out g2 hb z1) (Nat.le_trans z1 g2.size) (.cells #[.int .i64 r, .int .i64 g] 24))
  have X2 := Lib.hid (Blk.new w2 24 #[.int .i64 r, .int .i64 g])
  have z2 := g2.size
  have l1 := HS1.out.lt
  have z3 := HB2.out.size
  have x0 := X2.out.cell 0
  clear S2 g2
  obtain ⟨W, hW⟩ : ∃ W, w2.alloc (.cells #[.int .i64 r, .int .i64 g] 24) = W := ⟨_, rfl⟩
  have HSd : Hid (Src W.drew b A n c (0 + 8) cs) := by rw [← hW]; exact src_dr HS2.out 1
  have XW : Hid (Blk W.drew w2.heap.size 24 #[.int .i64 r, .int .i64 g]) := by rw [← hW]; exact X2.out
  rw [hW] at x0 HB2 z3
  clear X2 HS2
  go_wp2_with fail
  (try rw [hW])
  clear hW
  go_region_with (go_at_call 51; refine (l25DrawOthers_any b A n c (0 + 8) cs _ HSd.out hn (by omega)).mono ?_; rintro e w4 ⟨zs, v, rfl, ho, hzl, hall, S4, g4⟩; have x0' := (blk_over XW.out g4 (by intro e; injection e with e; omega)).cell 0; have B4 := Lib.hid (below_src (belowDrewN HB2.out 1) g4 hb z3); have HO := Lib.hid ho; clear ho hall S4 g4)
  all_goals
    go_wp2_with fail
    go_ret2
    exact ⟨r, zs, v, rfl, by omega, by omega, own_base HO.out z3, hzl, B4.out⟩
set_option maxHeartbeats 4000000 in
theorem DrawPerformanceOf_any (A : Option Addr) (n c : Nat) (cs : List Int) (w : World) (hs : Sl w w.heap.size 1 A n (cs.map (Value.int .u8))) (hc : ∀ z ∈ cs, 0 ≤ z ∧ z ≤ 255) (hn : n ≤ 1048576) :
    Calls Try.prog 18 #[.slice A n c] w (PerP w) := by
  have HS := Lib.hid hs
  have HC := Lib.hid hc
  clear hs hc
  go_enter Try.func18, Try.ntmps18
  go_wp2_with fail
  refine (l00From_any A n c cs w HS.out HC.out).mono ?_
  rintro e w1 ⟨b, rfl, hb, S1, hb1⟩
  have HS1 := Lib.hid S1
  have HB1 := Lib.hid hb1
  have z1 := hb1.size
  have l1 := S1.lt
  clear S1 hb1
  go_wp2_with fail
  refine (l25DrawOthers_any b A n c 0 cs _ HS1.out hn (by omega)).mono ?_
  rintro e w2 ⟨zs, v, rfl, ho, hzl, hall, S2, g2⟩
  have HS2 := Lib.hid S2
  have HB2 := Lib.hid (below_src HB1.out g2 hb z1)
  have HO2 := Lib.hid ho
  have z2 := HB2.out.size
  have hw : IntKind.i64.wrap (2 * (zs.length : Int) + 2) = 2 * (zs.length : Int) + 2 := IntWalk.i64_in _ (by omega)
  obtain ⟨A', g', cap, rfl, hg', hnc, hcm, ho2⟩ := own_of_row ho
  clear ho ho2 S2 g2 hall
  go_wp2_with fail
  refine (pick_any b A n c (0 + 100) cs (2 * (zs.length : Int) + 2) _ HS2.out hn (by omega) (by omega)).mono ?_
  rintro e w3 ⟨x, rfl, hx0, hx1, -, S3, g3⟩
  have hx2 := hx1 (by omega)
  have HS3 := Lib.hid S3
  have HB3 := Lib.hid (below_src HB2.out g3 hb z2)
  have HO3 := Lib.hid (own_over HO2.out g3 (own_ne HO2.out l1))
  have z3 := HB3.out.size
  clear S3 g3 hx1
  go_wp2_with fail
  refine (pick_any b A n c (0 + 100 + 2) cs 20 _ HS3.out hn (by omega) (by omega)).mono ?_
  rintro e w4 ⟨y, rfl, hy0, hy1, -, S4, g4⟩
  have hy2 := hy1 (by omega)
  have HB4 := Lib.hid (below_src HB3.out g4 hb z3)
  have HO4 := Lib.hid (own_over HO3.out g4 (own_ne HO3.out l1))
  clear S4 g4 hy1
  go_wp2_with fail
  go_ret2
  exact ⟨_, zs, _, rfl, by omega, by omega, own_base HO4.out z1, hzl, HB4.out⟩
end Go.Proofs.Ytaeeijjejkohjaa
