/- Draws of players and games. Conditions: at most 2^20 bytes. -/
import Derived.Test.YteeplmnjipddaaaDoorG08
import Derived.Test.YteeplmnjipddaaaDoorG01
import Derived.Deep.RegionHeld3
import Derived.Deep.DeepCutAuto
import Derived.Test.YteeplmnjipddaaaDoorG03
/- A player after some games, by both functions. Conditions: sums of at most 198000. -/
namespace Go.Proofs.YteeplmnjipddaaaDoor
set_option linter.unusedSimpArgs false
set_option linter.unusedVariables false
open Go.RowKit

def rnd (t : Int) : Int := if t < 0 then -((2 * -t + 1000) / 2000) else (2 * t + 1000) / 2000
def mvA (a b s : Int) : Int := max 0 (min 4000 (a + rnd (stepR a b * s)))
def mvB (b g : Int) : Int := min 1000000 (b + g)
theorem stepR_cases (a b : Int) : stepR a b = 40 ∨ stepR a b = 20 ∨ stepR a b = 10 := by
  unfold stepR
  split
  · exact .inl rfl
  · split
    · exact .inr (.inl rfl)
    · exact .inr (.inr rfl)
theorem total_bd {a b s : Int} (h1 : -198000 ≤ s) (h2 : s ≤ 198000) : -7920000 ≤ stepR a b * s ∧ stepR a b * s ≤ 7920000 := by
  rcases stepR_cases a b with h | h | h <;> rw [h] <;> omega
theorem ret_agg {x x' y y' : Int} (h : x = x') (h2 : y = y') : Ending.returned (.agg #[.int .i64 x, .int .i64 y]) = .returned (.agg #[.int .i64 x', .int .i64 y']) := by rw [h, h2]
theorem res_cells {w1 : World} {g : Nat} {t : TypeId} (K : Blk w1 g t #[.int .i64 0, .int .i64 0]) :
    (∀ v v', ((w1.setCell ⟨g, 0, none⟩ v).setCell ⟨g, 1, none⟩ v').cell? ⟨g, 0, none⟩ = some v) ∧ (∀ v v', ((w1.setCell ⟨g, 0, none⟩ v).setCell ⟨g, 1, none⟩ v').cell? ⟨g, 1, none⟩ = some v') :=
  ⟨fun v v' => ((K.set 0 v).set 1 v').cell 0, fun v v' => ((K.set 0 v).set 1 v').cell 1⟩
end Go.Proofs.YteeplmnjipddaaaDoor
/- A player after some games, by the reference. Conditions: sums of at most 198000. -/
namespace Go.Proofs.YteeplmnjipddaaaDoor
set_option linter.unusedSimpArgs false
set_option linter.unusedVariables false
open Go.RowKit

theorem boxed2' (w : World) (o : Obj) : Below w.heap.size w (w.alloc o) := Below.alloc (Below.refl _ _) (Nat.le_refl _) o
theorem below_b2 {w w' : World} {o o' : Obj} (h : Below ((w.alloc o).alloc o').heap.size ((w.alloc o).alloc o') w') : Below w.heap.size w w' := Below.via h (Below.alloc (Below.alloc (Below.refl _ _) (Nat.le_refl _) _) (by simp) _) (by simp; omega)
theorem box2_keep {W0 W W' : World} {g : Nat} {u1 u2 : Value} (h : (W.cell? ⟨g, 0, none⟩ = some u1 ∧ W.cell? ⟨g, 1, none⟩ = some u2) ∧ Below W0.heap.size W0 W) (hb : Below W.heap.size W W') : (W'.cell? ⟨g, 0, none⟩ = some u1 ∧ W'.cell? ⟨g, 1, none⟩ = some u2) ∧ Below W0.heap.size W0 W' := by
  obtain ⟨⟨a0, a1⟩, hB⟩ := h
  have l0 := cell_lt a0
  exact ⟨⟨(hb.cell (p := ⟨_, _, none⟩) l0).trans a0, (hb.cell (p := ⟨_, _, none⟩) l0).trans a1⟩, Below.via hb hB hB.size⟩
theorem box2_drew {W0 W : World} {g : Nat} {u1 u2 : Value} (h : (W.cell? ⟨g, 0, none⟩ = some u1 ∧ W.cell? ⟨g, 1, none⟩ = some u2) ∧ Below W0.heap.size W0 W) : (W.drew.cell? ⟨g, 0, none⟩ = some u1 ∧ W.drew.cell? ⟨g, 1, none⟩ = some u2) ∧ Below W0.heap.size W0 W.drew := ⟨h.1, Below.drew h.2⟩
end Go.Proofs.YteeplmnjipddaaaDoor
/- Sums of scores and of games: the first loop of the program's rated. Conditions: at most 100 players and games. -/
namespace Go.Proofs.YteeplmnjipddaaaDoor
set_option linter.unusedSimpArgs false
set_option linter.unusedVariables false
open Go.RowKit

def ix (G : List Int) (p : Nat) : Nat := (G.getD p 0).toNat
def ownG (L G : List Int) (k : Nat) : Int := 500 * G.getD (k * 3 + 2) 0 - expE (L.getD (ix G (k * 3) * 2) 0 - L.getD (ix G (k * 3 + 1) * 2) 0)
def add1 (s : List Int) (i : Nat) (v : Int) : List Int := s.set i (s.getD i 0 + v)
def sumsL (L G : List Int) (n : Nat) : Nat → List Int
  | 0 => List.replicate n 0
  | k + 1 => add1 (add1 (sumsL L G n k) (ix G (k * 3)) (ownG L G k)) (ix G (k * 3 + 1)) (-(ownG L G k))
def cntL (G : List Int) (n : Nat) : Nat → List Int
  | 0 => List.replicate n 0
  | k + 1 => add1 (add1 (cntL G n k) (ix G (k * 3)) 1) (ix G (k * 3 + 1)) 1
theorem add1_len (s : List Int) (i : Nat) (v : Int) : (add1 s i v).length = s.length := by simp [add1]
theorem sumsL_len (L G : List Int) (n k : Nat) : (sumsL L G n k).length = n := by
  induction k with
  | zero => simp [sumsL]
  | succ k ih => rw [sumsL, add1_len, add1_len, ih]
theorem cntL_len (G : List Int) (n k : Nat) : (cntL G n k).length = n := by
  induction k with
  | zero => simp [cntL]
  | succ k ih => rw [cntL, add1_len, add1_len, ih]
theorem add1_at (s : List Int) (i j : Nat) (v : Int) : (add1 s i v).getD j 0 = if i = j ∧ i < s.length then s.getD i 0 + v else s.getD j 0 := by
  rw [add1, List.getD_eq_getElem?_getD, List.getElem?_set]
  by_cases h : i = j
  · subst h
    by_cases h2 : i < s.length
    · simp [h2]
    · simp [h2, List.getD_eq_getElem?_getD]
  · simp [h, List.getD_eq_getElem?_getD]
theorem add1_bd {s : List Int} {i : Nat} {v lo hi m : Int} (h : ∀ j, lo ≤ s.getD j 0 ∧ s.getD j 0 ≤ hi) (h1 : -m ≤ v) (h2 : v ≤ m) (h0 : 0 ≤ m) (j : Nat) : lo - m ≤ (add1 s i v).getD j 0 ∧ (add1 s i v).getD j 0 ≤ hi + m := by
  rw [add1_at]
  have a := h i
  have b := h j
  split <;> omega
theorem add1_two {s : List Int} {a b : Nat} {v u : Int} (hab : a ≠ b) : add1 (add1 s a v) b u = (s.set a (s.getD a 0 + v)).set b (s.getD b 0 + u) := by
  have h : (add1 s a v).getD b 0 = s.getD b 0 := by rw [add1_at, if_neg (fun h => hab h.1)]
  rw [add1, h, add1]
theorem bbox {w w' : World} {o : Obj} (h : Below (w.alloc o).heap.size (w.alloc o) w') : Below w.heap.size w w' := Below.via h (boxed2' w o) (by simp)
theorem rep_zero (n j : Nat) : (List.replicate n (0 : Int)).getD j 0 = 0 := by
  rw [List.getD_eq_getElem?_getD, List.getElem?_replicate]
  split <;> rfl
/-- The games and the players that are rated. -/
structure GOk (L G : List Int) (n m : Nat) : Prop where
  a : ∀ k, k < m → 0 ≤ G.getD (k * 3) 0 ∧ G.getD (k * 3) 0 < n
  b : ∀ k, k < m → 0 ≤ G.getD (k * 3 + 1) 0 ∧ G.getD (k * 3 + 1) 0 < n
  ne : ∀ k, k < m → G.getD (k * 3) 0 ≠ G.getD (k * 3 + 1) 0
  s : ∀ k, k < m → 0 ≤ G.getD (k * 3 + 2) 0 ∧ G.getD (k * 3 + 2) 0 ≤ 2
  r : ∀ i, i < n → 0 ≤ L.getD (i * 2) 0 ∧ L.getD (i * 2) 0 ≤ 4000 ∧ 0 ≤ L.getD (i * 2 + 1) 0 ∧ L.getD (i * 2 + 1) 0 ≤ 1000000
theorem ownG_bd {L G : List Int} {n m k : Nat} (h : GOk L G n m) (hk : k < m) : -990 ≤ ownG L G k ∧ ownG L G k ≤ 990 := by
  have h1 := h.s k hk
  have h2 := expE_bd (L.getD (ix G (k * 3) * 2) 0 - L.getD (ix G (k * 3 + 1) * 2) 0)
  unfold ownG
  omega
theorem sumsL_bd {L G : List Int} {n m k : Nat} (h : GOk L G n m) (hk : k ≤ m) (j : Nat) : -(1980 * (k : Int)) ≤ (sumsL L G n k).getD j 0 ∧ (sumsL L G n k).getD j 0 ≤ 1980 * (k : Int) := by
  induction k generalizing j with
  | zero => rw [sumsL, rep_zero]; omega
  | succ k ih =>
    obtain ⟨o1, o2⟩ := ownG_bd h (show k < m by omega)
    have h1 := fun j => ih (by omega) j
    have h2 := add1_bd (i := ix G (k * 3)) (v := ownG L G k) (m := 990) h1 o1 o2 (by omega)
    have h3 := add1_bd (i := ix G (k * 3 + 1)) (v := -ownG L G k) (m := 990) h2 (by omega) (by omega) (by omega) j
    rw [sumsL]
    omega
theorem cntL_bd (G : List Int) (n k j : Nat) : 0 ≤ (cntL G n k).getD j 0 ∧ (cntL G n k).getD j 0 ≤ 2 * (k : Int) := by
  induction k generalizing j with
  | zero => rw [cntL, rep_zero]; omega
  | succ k ih =>
    rw [cntL, add1_at, add1_at, add1_at]
    have h1 := ih j
    have h2 := ih (ix G (k * 3))
    have h3 := ih (ix G (k * 3 + 1))
    split <;> split <;> (try split) <;> omega
theorem aget {zs : List Int} {d : Nat} (h : d < zs.length) : (zs.map (Value.int .i64)).toArray[d]? = some (.int .i64 (zs.getD d 0)) := by
  rw [List.getElem?_toArray]; exact getD_map_int h
theorem aset (zs : List Int) (d : Nat) (v : Int) : (zs.map (Value.int .i64)).toArray.setIfInBounds d (.int .i64 v) = ((zs.set d v).map (Value.int .i64)).toArray := by
  rw [List.setIfInBounds_toArray, ← List.map_set]
theorem Blk.dr {w : World} {g : Nat} {t : TypeId} {cs : Array Value} (h : Blk w g t cs) : Blk w.drew g t cs := h
theorem Blk.setO {w : World} {g : Nat} {t : TypeId} {cs : Array Value} (h : Blk w g t cs) {p : Addr} (u : Value) (hne : g ≠ p.block) : Blk (w.setCell p u) g t cs := (Below.heap_setCell w p u g hne).trans h
theorem box5_keep {W0 W W' : World} {g bl o1 o2 : Nat} {u0 u1 u2 u3 u4 : Value} (h : (W.cell? ⟨g, 0, none⟩ = some u0 ∧ W.cell? ⟨g, 1, none⟩ = some u1 ∧ W.cell? ⟨g, 2, none⟩ = some u2) ∧ (W.cell? ⟨bl, o1, none⟩ = some u3 ∧ W.cell? ⟨bl, o2, none⟩ = some u4) ∧ Below W0.heap.size W0 W) (hb : Below W.heap.size W W') : (W'.cell? ⟨g, 0, none⟩ = some u0 ∧ W'.cell? ⟨g, 1, none⟩ = some u1 ∧ W'.cell? ⟨g, 2, none⟩ = some u2) ∧ (W'.cell? ⟨bl, o1, none⟩ = some u3 ∧ W'.cell? ⟨bl, o2, none⟩ = some u4) ∧ Below W0.heap.size W0 W' := by
  obtain ⟨⟨a0, a1, a2⟩, ⟨b0, b1⟩, hB⟩ := h
  have l0 := cell_lt a0
  have l1 := cell_lt b0
  exact ⟨⟨(hb.cell (p := ⟨_, _, none⟩) l0).trans a0, (hb.cell (p := ⟨_, _, none⟩) l0).trans a1, (hb.cell (p := ⟨_, _, none⟩) l0).trans a2⟩, ⟨(hb.cell (p := ⟨_, _, none⟩) l1).trans b0, (hb.cell (p := ⟨_, _, none⟩) l1).trans b1⟩, Below.via hb hB hB.size⟩
theorem box5_drew {W0 W : World} {g bl o1 o2 : Nat} {u0 u1 u2 u3 u4 : Value} (h : (W.cell? ⟨g, 0, none⟩ = some u0 ∧ W.cell? ⟨g, 1, none⟩ = some u1 ∧ W.cell? ⟨g, 2, none⟩ = some u2) ∧ (W.cell? ⟨bl, o1, none⟩ = some u3 ∧ W.cell? ⟨bl, o2, none⟩ = some u4) ∧ Below W0.heap.size W0 W) : (W.drew.cell? ⟨g, 0, none⟩ = some u0 ∧ W.drew.cell? ⟨g, 1, none⟩ = some u1 ∧ W.drew.cell? ⟨g, 2, none⟩ = some u2) ∧ (W.drew.cell? ⟨bl, o1, none⟩ = some u3 ∧ W.drew.cell? ⟨bl, o2, none⟩ = some u4) ∧ Below W0.heap.size W0 W.drew := ⟨h.1, h.2.1, Below.drew h.2.2⟩
theorem box4_keep {W W' : World} {g gs gc o1 : Nat} {u0 u1 u2 u3 : Value} (h : (W.cell? ⟨g, 0, none⟩ = some u0 ∧ W.cell? ⟨g, 1, none⟩ = some u1) ∧ (W.cell? ⟨gs, o1, none⟩ = some u2 ∧ W.cell? ⟨gc, o1, none⟩ = some u3)) (hb : Below W.heap.size W W') : (W'.cell? ⟨g, 0, none⟩ = some u0 ∧ W'.cell? ⟨g, 1, none⟩ = some u1) ∧ (W'.cell? ⟨gs, o1, none⟩ = some u2 ∧ W'.cell? ⟨gc, o1, none⟩ = some u3) := by
  obtain ⟨⟨a0, a1⟩, ⟨b0, b1⟩⟩ := h
  exact ⟨⟨(hb.cell (p := ⟨_, _, none⟩) (cell_lt a0)).trans a0, (hb.cell (p := ⟨_, _, none⟩) (cell_lt a0)).trans a1⟩, ⟨(hb.cell (p := ⟨_, _, none⟩) (cell_lt b0)).trans b0, (hb.cell (p := ⟨_, _, none⟩) (cell_lt b1)).trans b1⟩⟩
theorem box4_drew {W : World} {g gs gc o1 : Nat} {u0 u1 u2 u3 : Value} (h : (W.cell? ⟨g, 0, none⟩ = some u0 ∧ W.cell? ⟨g, 1, none⟩ = some u1) ∧ (W.cell? ⟨gs, o1, none⟩ = some u2 ∧ W.cell? ⟨gc, o1, none⟩ = some u3)) : (W.drew.cell? ⟨g, 0, none⟩ = some u0 ∧ W.drew.cell? ⟨g, 1, none⟩ = some u1) ∧ (W.drew.cell? ⟨gs, o1, none⟩ = some u2 ∧ W.drew.cell? ⟨gc, o1, none⟩ = some u3) := h
theorem box4_alloc {W : World} {g gs gc o1 : Nat} {u0 u1 u2 u3 : Value} (h : (W.cell? ⟨g, 0, none⟩ = some u0 ∧ W.cell? ⟨g, 1, none⟩ = some u1) ∧ (W.cell? ⟨gs, o1, none⟩ = some u2 ∧ W.cell? ⟨gc, o1, none⟩ = some u3)) (o : Obj) : ((W.alloc o).cell? ⟨g, 0, none⟩ = some u0 ∧ (W.alloc o).cell? ⟨g, 1, none⟩ = some u1) ∧ ((W.alloc o).cell? ⟨gs, o1, none⟩ = some u2 ∧ (W.alloc o).cell? ⟨gc, o1, none⟩ = some u3) := box4_keep h (boxed2' _ _)
theorem box4_grown {W W' : World} {g gs gc o1 : Nat} {u0 u1 u2 u3 : Value} {r : Option Nat} (h : (W.cell? ⟨g, 0, none⟩ = some u0 ∧ W.cell? ⟨g, 1, none⟩ = some u1) ∧ (W.cell? ⟨gs, o1, none⟩ = some u2 ∧ W.cell? ⟨gc, o1, none⟩ = some u3)) (hg : W.grownBy W' r) (n1 : some g ≠ r) (n2 : some gs ≠ r) (n3 : some gc ≠ r) : (W'.cell? ⟨g, 0, none⟩ = some u0 ∧ W'.cell? ⟨g, 1, none⟩ = some u1) ∧ (W'.cell? ⟨gs, o1, none⟩ = some u2 ∧ W'.cell? ⟨gc, o1, none⟩ = some u3) := by
  obtain ⟨⟨a0, a1⟩, ⟨b0, b1⟩⟩ := h
  exact ⟨⟨(World.cell?_of_block (a := ⟨_, _, none⟩) (hg.block _ (cell_lt a0) n1)).trans a0, (World.cell?_of_block (a := ⟨_, _, none⟩) (hg.block _ (cell_lt a0) n1)).trans a1⟩, ⟨(World.cell?_of_block (a := ⟨_, _, none⟩) (hg.block _ (cell_lt b0) n2)).trans b0, (World.cell?_of_block (a := ⟨_, _, none⟩) (hg.block _ (cell_lt b1) n3)).trans b1⟩⟩
theorem below_app2 {B : Nat} {a w w' : World} {base : Nat} {e : TypeId} {size n : Nat} {v : Value} {xs : List Value} (h : Below B a w) (ho : w.ownsRow base e size v n xs) (hg : w.grownBy w' v.ownBlock) (hbb : B ≤ base) (hB : B ≤ w.heap.size) : Below B a w' := below_app h ho hg hbb hB
def outL (L S C : List Int) : Nat → List Int
  | 0 => []
  | k + 1 => outL L S C k ++ [mvA (L.getD (k * 2) 0) (L.getD (k * 2 + 1) 0) (S.getD k 0), mvB (L.getD (k * 2 + 1) 0) (C.getD k 0)]
theorem outL_len (L S C : List Int) (k : Nat) : (outL L S C k).length = k * 2 := by
  induction k with
  | zero => rfl
  | succ k ih => rw [outL, List.length_append, ih, Nat.succ_mul]; rfl
def ratedL (L G : List Int) (n m : Nat) : List Int := outL L (sumsL L G n m) (cntL G n m) n
def RtPost (P : Program) (R : List Int) (n : Nat) (w : World) (e : Ending) (w' : World) : Prop :=
  ∃ (A : Option Addr) (g cap : Nat), e = .returned (.slice A n cap) ∧ w.heap.size ≤ g ∧ Own w' g 25 2 A n R ∧ Below w.heap.size w w'
theorem info_Rated2 : (Tryd.prog.info? 25).map (fun i => (i.zero, i.size, i.bytes)) = some (some (.agg #[Value.int .i64 0, .int .i64 0]), 2, 16) := by kernel_rfl
theorem info_int64r : (Tryd.prog.info? 2).map (fun i => (i.zero, i.size, i.bytes)) = some (some (.int .i64 0), 1, 8) := by kernel_rfl
end Go.Proofs.YteeplmnjipddaaaDoor
/- Draws of players and games. Conditions: at most 2^20 bytes. -/
namespace Go.Proofs.YteeplmnjipddaaaDoor
set_option linter.unusedSimpArgs false
set_option linter.unusedVariables false
open Go.RowKit Go.WideShapes Go.ChangeShapes

theorem info_Rated3 : (Tryd.prog.info? 25).map (fun i => (i.zero, i.size, i.bytes)) = some (some (.agg #[Value.int .i64 0, .int .i64 0]), 2, 16) := by kernel_rfl
theorem info_Outcome3 : (Tryd.prog.info? 78).map (fun i => (i.zero, i.size, i.bytes)) = some (some (.agg #[Value.int .i64 0, .int .i64 0, .int .i64 0]), 3, 24) := by kernel_rfl
def LiP (t : TypeId) (b : Nat) (A : Option Addr) (n c M : Nat) (cs : List Int) (w : World) (e : Ending) (w' : World) : Prop :=
  ∃ (v : Value) (j : Nat) (zs : List Int), e = .returned v ∧ j ≤ 101 ∧ MV t 2 w w' b A n c (M + 100) cs v j (zs.map (Value.int .i64))
set_option maxRecDepth 4000 in
set_option maxHeartbeats 4000000 in
theorem l25List_any (b : Nat) (A : Option Addr) (n c M : Nat) (cs : List Int) (w : World) (h : Src w b A n c M cs) (hn : n ≤ 1048576) (hM : M ≤ 999990000) :
    Calls Tryd.prog 27 #[.pointer (some ⟨b, 0, none⟩)] w (LiP 25 b A n c M cs w) := by
  obtain ⟨i0, hi, hz0, hz1, hz2⟩ := info_parts info_Rated3
  have HI := Lib.hid (And.intro hi (And.intro hz0 (And.intro hz1 hz2)))
  clear hi hz0 hz1 hz2
  have hbl := h.lt
  have HAB := Lib.hid h.aBelow
  have HM0 : Hid (MV 25 2 w (w.alloc (.cells #[] 25)) b A n c M cs (.slice (some ⟨w.heap.size, 0, none⟩) 0 0) 0 []) := ⟨h.later (Below.alloc (Below.refl _ _) (Nat.le_refl _) _), World.ownsRow_made _ _ 0 (Nat.le_refl _) (Nat.zero_le _) rfl, grown_alloc (World.grownBy.refl _ _) _⟩
  clear h
  go_enter Tryd.func27, Tryd.ntmps27
  go_wp2_with fail
  refine (pick_any b A n c M cs 7 _ HM0.out.src hn (by omega) (by omega)).mono ?_
  rintro e w1 ⟨x, rfl, hx0, hx1, -, S1, g1⟩
  have hx7 := hx1 (by omega)
  obtain ⟨kk, rfl⟩ := Int.eq_ofNat_of_zero_le hx0
  have HM1 := Lib.hid (HM0.out.draw hbl S1 g1)
  clear S1 g1 hx1 HM0
  go_wp2_with fail
  go_loopw [3, 4] (fun v i wr => ∃ (k j : Nat) (zs : List Int), i = .int .i64 k ∧ k + j = kk ∧ MV 25 2 w wr b A n c (M + 2 + 8 * j) cs v j (zs.map (Value.int .i64))) (fun _ i _ => (intOf i).toNat)
  case atStart => exact ⟨kk, 0, [], rfl, by omega, HM1.out⟩
  case round =>
    obtain ⟨k, j, zs, rfl, hkj, hmv⟩ := hrel
    have HM := Lib.hid hmv
    have hgs := hmv.gr.size
    clear hmv
    by_cases hk : 0 < k
    case pos =>
      go_wp2_with fail
      refine (l25Draw_any b A n c (M + 2 + 8 * j) cs _ HM.out.src hn (by omega)).mono ?_
      rintro e w2 ⟨r, g, rfl, hr0, hr1, hg0, hg1, S2, g2⟩
      have HM2 := Lib.hid ((HM.out.draw hbl S2 g2).alloc (.cells #[.int .i64 r, .int .i64 g] 25))
      have hz2 := HM2.out.gr.size
      clear S2 g2
      go_wp2_with (at_builtin; refine wpList_append_sl _ rfl _ _ 31 rfl w.heap.size 25 i0 _ 2 16 Tryd.underlying31 HI.out.1 HI.out.2.1 HI.out.2.2.1 HI.out.2.2.2 rfl (by decide) _ j (zs.map (Value.int .i64)) rfl HM2.out.row (w2.heap.size + 1) _ 1 1 [.int .i64 r, .int .i64 g] rfl (Sl.built (by simp) (by simp) rfl) ?c1 ?c2 ?c3 ?c4 ?_)
      case c1 => intro u hu; simp at hu; rcases hu with rfl | rfl <;> rfl
      case c2 => unfold maxLen; omega
      case c3 => omega
      case c4 => exact hz2
      intro v' w4 hown4 hg4 _
      have HM4 := Lib.hid (HM2.out.app hbl HAB.out hown4 hg4)
      clear hown4 hg4
      go_wp2_with fail
      go_roundw
      case rel => exact ⟨k - 1, j + 1, zs ++ [r, g], by go_num, by omega, by rw [List.map_append]; exact HM4.out.mono (by omega)⟩
      case measure => first | (simp [intOf]; done) | (simp [intOf]; omega)
    case neg =>
      obtain rfl : k = 0 := by omega
      go_wp2_with fail
      refine (one_any b A n c (M + 2 + 8 * j) cs 24 _ HM.out.src hn (by omega) (by omega)).mono ?_
      rintro e w2 ⟨q, rfl, S2, g2⟩
      have HM2 := Lib.hid (HM.out.draw hbl S2 g2)
      clear S2 g2
      cases q
      case false =>
        go_wp2_with fail
        go_ret
        exact ⟨_, j, zs, rfl, by omega, HM2.out.mono (by omega)⟩
      case true =>
        go_wp2_with fail
        refine (pick_any b A n c (M + 2 + 8 * j + 2) cs 2 _ HM2.out.src hn (by omega) (by omega)).mono ?_
        rintro e w3 ⟨y, rfl, hy0, hy1, -, S3, g3⟩
        have hy2 := hy1 (by omega)
        obtain ⟨m, rfl⟩ := Int.eq_ofNat_of_zero_le hy0
        obtain ⟨q, hq⟩ : ∃ q : Nat, 100 + m = q := ⟨_, rfl⟩
        have hm : (100 : Int) + (m : Nat) = (q : Nat) := by omega
        have hq3 : q ≤ 101 := by omega
        clear hq
        have HM3 := Lib.hid (HM2.out.draw hbl S3 g3)
        have hmk := fun W => run_makeN (P := Tryd.prog) 31 25 i0 (.agg #[.int .i64 0, .int .i64 0]) Tryd.underlying31 HI.out.1 HI.out.2.1 .i64 .i64 q q (Nat.le_refl _) (by rw [HI.out.2.2.2]; omega) (by omega) W
        rw [HI.out.2.2.1] at hmk
        clear S3 g3 hy1
        go_wp2_with fail
        go_ret
        refine ⟨_, q, List.replicate (q * 2) 0, rfl, by omega, ⟨(HM3.out.src.later (Below.alloc (Below.refl _ _) (Nat.le_refl _) _)).mono (by omega), ?_, grown_alloc HM3.out.gr _⟩⟩
        rw [List.map_replicate]
        refine row_of_blkN ?_ HM3.out.gr.size (by rw [List.length_replicate]) (by unfold maxLen; omega)
        rw [← made_two]
        exact Blk.new _ _ _
end Go.Proofs.YteeplmnjipddaaaDoor
