/- Draws of ratings for expectations. Conditions: at most 2^20 bytes. -/
import Derived.Test.YtbepfonpfnllkaaDoorG06
import Derived.Deep.RegionHeld3
import Derived.Deep.DeepCutAuto
import Derived.Test.YtbepfonpfnllkaaDoorG01
import Derived.Test.YtbepfonpfnllkaaDoorG02
import Derived.Test.YtbepfonpfnllkaaDoorG05
/- A player after some games, by the reference. Conditions: sums of at most 198000. -/
namespace Go.Proofs.YtbepfonpfnllkaaDoor
set_option linter.unusedSimpArgs false
set_option linter.unusedVariables false
open Go.RowKit

theorem boxed2' (w : World) (o : Obj) : Below w.heap.size w (w.alloc o) := Below.alloc (Below.refl _ _) (Nat.le_refl _) o
theorem below_b2 {w w' : World} {o o' : Obj} (h : Below ((w.alloc o).alloc o').heap.size ((w.alloc o).alloc o') w') : Below w.heap.size w w' := Below.via h (Below.alloc (Below.alloc (Below.refl _ _) (Nat.le_refl _) _) (by simp) _) (by simp; omega)
theorem box2_keep {W0 W W' : World} {g : Nat} {u1 u2 : Value} (h : (W.cell? ⟨g, 0, none⟩ = some u1 ∧ W.cell? ⟨g, 1, none⟩ = some u2) ∧ Below W0.heap.size W0 W) (hb : Below W.heap.size W W') : (W'.cell? ⟨g, 0, none⟩ = some u1 ∧ W'.cell? ⟨g, 1, none⟩ = some u2) ∧ Below W0.heap.size W0 W' := by
  obtain ⟨⟨a0, a1⟩, hB⟩ := h
  have l0 := cell_lt a0
  exact ⟨⟨(hb.cell (p := ⟨_, _, none⟩) l0).trans a0, (hb.cell (p := ⟨_, _, none⟩) l0).trans a1⟩, Below.via hb hB hB.size⟩
theorem box2_drew {W0 W : World} {g : Nat} {u1 u2 : Value} (h : (W.cell? ⟨g, 0, none⟩ = some u1 ∧ W.cell? ⟨g, 1, none⟩ = some u2) ∧ Below W0.heap.size W0 W) : (W.drew.cell? ⟨g, 0, none⟩ = some u1 ∧ W.drew.cell? ⟨g, 1, none⟩ = some u2) ∧ Below W0.heap.size W0 W.drew := ⟨h.1, Below.drew h.2⟩
end Go.Proofs.YtbepfonpfnllkaaDoor
/- Sums of scores and of games: the first loop of the program's rated. Conditions: at most 100 players and games. -/
namespace Go.Proofs.YtbepfonpfnllkaaDoor
set_option linter.unusedSimpArgs false
set_option linter.unusedVariables false
open Go.RowKit

def ix (G : List Int) (p : Nat) : Nat := (G.getD p 0).toNat
def ownG (L G : List Int) (k : Nat) : Int := 500 * G.getD (k * 3 + 2) 0 - expE (L.getD (ix G (k * 3) * 2) 0 - L.getD (ix G (k * 3 + 1) * 2) 0)
def add1 (s : List Int) (i : Nat) (v : Int) : List Int := s.set i (s.getD i 0 + v)
def sumsL (L G : List Int) (n : Nat) : Nat → List Int
  | 0 => List.replicate n 0
  | k + 1 => add1 (add1 (sumsL L G n k) (ix G (k * 3)) (ownG L G k)) (ix G (k * 3 + 1)) (-(ownG L G k))
def cntL (G : List Int) (n : Nat) : Nat → List Int
  | 0 => List.replicate n 0
  | k + 1 => add1 (add1 (cntL G n k) (ix G (k * 3)) 1) (ix G (k * 3 + 1)) 1
theorem add1_len (s : List Int) (i : Nat) (v : Int) : (add1 s i v).length = s.length := by simp [add1]
theorem sumsL_len (L G : List Int) (n k : Nat) : (sumsL L G n k).length = n := by
  induction k with
  | zero => simp [sumsL]
  | succ k ih => rw [sumsL, add1_len, add1_len, ih]
theorem cntL_len (G : List Int) (n k : Nat) : (cntL G n k).length = n := by
  induction k with
  | zero => simp [cntL]
  | succ k ih => rw [cntL, add1_len, add1_len, ih]
theorem add1_at (s : List Int) (i j : Nat) (v : Int) : (add1 s i v).getD j 0 = if i = j ∧ i < s.length then s.getD i 0 + v else s.getD j 0 := by
  rw [add1, List.getD_eq_getElem?_getD, List.getElem?_set]
  by_cases h : i = j
  · subst h
    by_cases h2 : i < s.length
    · simp [h2]
    · simp [h2, List.getD_eq_getElem?_getD]
  · simp [h, List.getD_eq_getElem?_getD]
theorem add1_bd {s : List Int} {i : Nat} {v lo hi m : Int} (h : ∀ j, lo ≤ s.getD j 0 ∧ s.getD j 0 ≤ hi) (h1 : -m ≤ v) (h2 : v ≤ m) (h0 : 0 ≤ m) (j : Nat) : lo - m ≤ (add1 s i v).getD j 0 ∧ (add1 s i v).getD j 0 ≤ hi + m := by
  rw [add1_at]
  have a := h i
  have b := h j
  split <;> omega
theorem add1_two {s : List Int} {a b : Nat} {v u : Int} (hab : a ≠ b) : add1 (add1 s a v) b u = (s.set a (s.getD a 0 + v)).set b (s.getD b 0 + u) := by
  have h : (add1 s a v).getD b 0 = s.getD b 0 := by rw [add1_at, if_neg (fun h => hab h.1)]
  rw [add1, h, add1]
theorem bbox {w w' : World} {o : Obj} (h : Below (w.alloc o).heap.size (w.alloc o) w') : Below w.heap.size w w' := Below.via h (boxed2' w o) (by simp)
theorem rep_zero (n j : Nat) : (List.replicate n (0 : Int)).getD j 0 = 0 := by
  rw [List.getD_eq_getElem?_getD, List.getElem?_replicate]
  split <;> rfl
/-- The games and the players that are rated. -/
structure GOk (L G : List Int) (n m : Nat) : Prop where
  a : ∀ k, k < m → 0 ≤ G.getD (k * 3) 0 ∧ G.getD (k * 3) 0 < n
  b : ∀ k, k < m → 0 ≤ G.getD (k * 3 + 1) 0 ∧ G.getD (k * 3 + 1) 0 < n
  ne : ∀ k, k < m → G.getD (k * 3) 0 ≠ G.getD (k * 3 + 1) 0
  s : ∀ k, k < m → 0 ≤ G.getD (k * 3 + 2) 0 ∧ G.getD (k * 3 + 2) 0 ≤ 2
  r : ∀ i, i < n → 0 ≤ L.getD (i * 2) 0 ∧ L.getD (i * 2) 0 ≤ 4000 ∧ 0 ≤ L.getD (i * 2 + 1) 0 ∧ L.getD (i * 2 + 1) 0 ≤ 1000000
theorem ownG_bd {L G : List Int} {n m k : Nat} (h : GOk L G n m) (hk : k < m) : -990 ≤ ownG L G k ∧ ownG L G k ≤ 990 := by
  have h1 := h.s k hk
  have h2 := expE_bd (L.getD (ix G (k * 3) * 2) 0 - L.getD (ix G (k * 3 + 1) * 2) 0)
  unfold ownG
  omega
theorem sumsL_bd {L G : List Int} {n m k : Nat} (h : GOk L G n m) (hk : k ≤ m) (j : Nat) : -(1980 * (k : Int)) ≤ (sumsL L G n k).getD j 0 ∧ (sumsL L G n k).getD j 0 ≤ 1980 * (k : Int) := by
  induction k generalizing j with
  | zero => rw [sumsL, rep_zero]; omega
  | succ k ih =>
    obtain ⟨o1, o2⟩ := ownG_bd h (show k < m by omega)
    have h1 := fun j => ih (by omega) j
    have h2 := add1_bd (i := ix G (k * 3)) (v := ownG L G k) (m := 990) h1 o1 o2 (by omega)
    have h3 := add1_bd (i := ix G (k * 3 + 1)) (v := -ownG L G k) (m := 990) h2 (by omega) (by omega) (by omega) j
    rw [sumsL]
    omega
theorem cntL_bd (G : List Int) (n k j : Nat) : 0 ≤ (cntL G n k).getD j 0 ∧ (cntL G n k).getD j 0 ≤ 2 * (k : Int) := by
  induction k generalizing j with
  | zero => rw [cntL, rep_zero]; omega
  | succ k ih =>
    rw [cntL, add1_at, add1_at, add1_at]
    have h1 := ih j
    have h2 := ih (ix G (k * 3))
    have h3 := ih (ix G (k * 3 + 1))
    split <;> split <;> (try split) <;> omega
theorem aget {zs : List Int} {d : Nat} (h : d < zs.length) : (zs.map (Value.int .i64)).toArray[d]? = some (.int .i64 (zs.getD d 0)) := by
  rw [List.getElem?_toArray]; exact getD_map_int h
theorem aset (zs : List Int) (d : Nat) (v : Int) : (zs.map (Value.int .i64)).toArray.setIfInBounds d (.int .i64 v) = ((zs.set d v).map (Value.int .i64)).toArray := by
  rw [List.setIfInBounds_toArray, ← List.map_set]
theorem Blk.dr {w : World} {g : Nat} {t : TypeId} {cs : Array Value} (h : Blk w g t cs) : Blk w.drew g t cs := h
theorem Blk.setO {w : World} {g : Nat} {t : TypeId} {cs : Array Value} (h : Blk w g t cs) {p : Addr} (u : Value) (hne : g ≠ p.block) : Blk (w.setCell p u) g t cs := (Below.heap_setCell w p u g hne).trans h
theorem box5_keep {W0 W W' : World} {g bl o1 o2 : Nat} {u0 u1 u2 u3 u4 : Value} (h : (W.cell? ⟨g, 0, none⟩ = some u0 ∧ W.cell? ⟨g, 1, none⟩ = some u1 ∧ W.cell? ⟨g, 2, none⟩ = some u2) ∧ (W.cell? ⟨bl, o1, none⟩ = some u3 ∧ W.cell? ⟨bl, o2, none⟩ = some u4) ∧ Below W0.heap.size W0 W) (hb : Below W.heap.size W W') : (W'.cell? ⟨g, 0, none⟩ = some u0 ∧ W'.cell? ⟨g, 1, none⟩ = some u1 ∧ W'.cell? ⟨g, 2, none⟩ = some u2) ∧ (W'.cell? ⟨bl, o1, none⟩ = some u3 ∧ W'.cell? ⟨bl, o2, none⟩ = some u4) ∧ Below W0.heap.size W0 W' := by
  obtain ⟨⟨a0, a1, a2⟩, ⟨b0, b1⟩, hB⟩ := h
  have l0 := cell_lt a0
  have l1 := cell_lt b0
  exact ⟨⟨(hb.cell (p := ⟨_, _, none⟩) l0).trans a0, (hb.cell (p := ⟨_, _, none⟩) l0).trans a1, (hb.cell (p := ⟨_, _, none⟩) l0).trans a2⟩, ⟨(hb.cell (p := ⟨_, _, none⟩) l1).trans b0, (hb.cell (p := ⟨_, _, none⟩) l1).trans b1⟩, Below.via hb hB hB.size⟩
theorem box5_drew {W0 W : World} {g bl o1 o2 : Nat} {u0 u1 u2 u3 u4 : Value} (h : (W.cell? ⟨g, 0, none⟩ = some u0 ∧ W.cell? ⟨g, 1, none⟩ = some u1 ∧ W.cell? ⟨g, 2, none⟩ = some u2) ∧ (W.cell? ⟨bl, o1, none⟩ = some u3 ∧ W.cell? ⟨bl, o2, none⟩ = some u4) ∧ Below W0.heap.size W0 W) : (W.drew.cell? ⟨g, 0, none⟩ = some u0 ∧ W.drew.cell? ⟨g, 1, none⟩ = some u1 ∧ W.drew.cell? ⟨g, 2, none⟩ = some u2) ∧ (W.drew.cell? ⟨bl, o1, none⟩ = some u3 ∧ W.drew.cell? ⟨bl, o2, none⟩ = some u4) ∧ Below W0.heap.size W0 W.drew := ⟨h.1, h.2.1, Below.drew h.2.2⟩
theorem box4_keep {W W' : World} {g gs gc o1 : Nat} {u0 u1 u2 u3 : Value} (h : (W.cell? ⟨g, 0, none⟩ = some u0 ∧ W.cell? ⟨g, 1, none⟩ = some u1) ∧ (W.cell? ⟨gs, o1, none⟩ = some u2 ∧ W.cell? ⟨gc, o1, none⟩ = some u3)) (hb : Below W.heap.size W W') : (W'.cell? ⟨g, 0, none⟩ = some u0 ∧ W'.cell? ⟨g, 1, none⟩ = some u1) ∧ (W'.cell? ⟨gs, o1, none⟩ = some u2 ∧ W'.cell? ⟨gc, o1, none⟩ = some u3) := by
  obtain ⟨⟨a0, a1⟩, ⟨b0, b1⟩⟩ := h
  exact ⟨⟨(hb.cell (p := ⟨_, _, none⟩) (cell_lt a0)).trans a0, (hb.cell (p := ⟨_, _, none⟩) (cell_lt a0)).trans a1⟩, ⟨(hb.cell (p := ⟨_, _, none⟩) (cell_lt b0)).trans b0, (hb.cell (p := ⟨_, _, none⟩) (cell_lt b1)).trans b1⟩⟩
theorem box4_drew {W : World} {g gs gc o1 : Nat} {u0 u1 u2 u3 : Value} (h : (W.cell? ⟨g, 0, none⟩ = some u0 ∧ W.cell? ⟨g, 1, none⟩ = some u1) ∧ (W.cell? ⟨gs, o1, none⟩ = some u2 ∧ W.cell? ⟨gc, o1, none⟩ = some u3)) : (W.drew.cell? ⟨g, 0, none⟩ = some u0 ∧ W.drew.cell? ⟨g, 1, none⟩ = some u1) ∧ (W.drew.cell? ⟨gs, o1, none⟩ = some u2 ∧ W.drew.cell? ⟨gc, o1, none⟩ = some u3) := h
theorem box4_alloc {W : World} {g gs gc o1 : Nat} {u0 u1 u2 u3 : Value} (h : (W.cell? ⟨g, 0, none⟩ = some u0 ∧ W.cell? ⟨g, 1, none⟩ = some u1) ∧ (W.cell? ⟨gs, o1, none⟩ = some u2 ∧ W.cell? ⟨gc, o1, none⟩ = some u3)) (o : Obj) : ((W.alloc o).cell? ⟨g, 0, none⟩ = some u0 ∧ (W.alloc o).cell? ⟨g, 1, none⟩ = some u1) ∧ ((W.alloc o).cell? ⟨gs, o1, none⟩ = some u2 ∧ (W.alloc o).cell? ⟨gc, o1, none⟩ = some u3) := box4_keep h (boxed2' _ _)
theorem box4_grown {W W' : World} {g gs gc o1 : Nat} {u0 u1 u2 u3 : Value} {r : Option Nat} (h : (W.cell? ⟨g, 0, none⟩ = some u0 ∧ W.cell? ⟨g, 1, none⟩ = some u1) ∧ (W.cell? ⟨gs, o1, none⟩ = some u2 ∧ W.cell? ⟨gc, o1, none⟩ = some u3)) (hg : W.grownBy W' r) (n1 : some g ≠ r) (n2 : some gs ≠ r) (n3 : some gc ≠ r) : (W'.cell? ⟨g, 0, none⟩ = some u0 ∧ W'.cell? ⟨g, 1, none⟩ = some u1) ∧ (W'.cell? ⟨gs, o1, none⟩ = some u2 ∧ W'.cell? ⟨gc, o1, none⟩ = some u3) := by
  obtain ⟨⟨a0, a1⟩, ⟨b0, b1⟩⟩ := h
  exact ⟨⟨(World.cell?_of_block (a := ⟨_, _, none⟩) (hg.block _ (cell_lt a0) n1)).trans a0, (World.cell?_of_block (a := ⟨_, _, none⟩) (hg.block _ (cell_lt a0) n1)).trans a1⟩, ⟨(World.cell?_of_block (a := ⟨_, _, none⟩) (hg.block _ (cell_lt b0) n2)).trans b0, (World.cell?_of_block (a := ⟨_, _, none⟩) (hg.block _ (cell_lt b1) n3)).trans b1⟩⟩
theorem below_app2 {B : Nat} {a w w' : World} {base : Nat} {e : TypeId} {size n : Nat} {v : Value} {xs : List Value} (h : Below B a w) (ho : w.ownsRow base e size v n xs) (hg : w.grownBy w' v.ownBlock) (hbb : B ≤ base) (hB : B ≤ w.heap.size) : Below B a w' := below_app h ho hg hbb hB
def outL (L S C : List Int) : Nat → List Int
  | 0 => []
  | k + 1 => outL L S C k ++ [mvA (L.getD (k * 2) 0) (L.getD (k * 2 + 1) 0) (S.getD k 0), mvB (L.getD (k * 2 + 1) 0) (C.getD k 0)]
theorem outL_len (L S C : List Int) (k : Nat) : (outL L S C k).length = k * 2 := by
  induction k with
  | zero => rfl
  | succ k ih => rw [outL, List.length_append, ih, Nat.succ_mul]; rfl
def ratedL (L G : List Int) (n m : Nat) : List Int := outL L (sumsL L G n m) (cntL G n m) n
theorem info_int64r : (Tryd.prog.info? 2).map (fun i => (i.zero, i.size, i.bytes)) = some (some (.int .i64 0), 1, 8) := by kernel_rfl
end Go.Proofs.YtbepfonpfnllkaaDoor
/- Draws of ratings for expectations. Conditions: at most 2^20 bytes. -/
namespace Go.Proofs.YtbepfonpfnllkaaDoor
set_option linter.unusedSimpArgs false
set_option linter.unusedVariables false
open Go.RowKit Go.WideShapes Go.ChangeShapes

def Big6 (n : Nat) (w : World) (e : Ending) (w' : World) : Prop := ∃ q, e = .returned (.bool q) ∧ (q = false → n ≤ 4096) ∧ w = w'
theorem f6big_any (A : Option Addr) (n c : Nat) (w : World) : Calls Tryd.prog 4 #[.slice A n c] w (Big6 n w) := by
  by_cases h : n ≤ 4096
  · have h2 : decide ((4096 : Int) < n) = false := decide_eq_false (by omega)
    go_enter Tryd.func4, Tryd.ntmps4
    go_wp2_with fail
    go_ret
    exact ⟨_, rfl, fun _ => h, rfl⟩
  · have h2 : decide ((4096 : Int) < n) = true := decide_eq_true (by omega)
    go_enter Tryd.func4, Tryd.ntmps4
    go_wp2_with fail
    go_ret
    exact ⟨true, rfl, fun h => by simp at h, rfl⟩
/-- A drawn list of ratings. -/
def OthP (b : Nat) (A : Option Addr) (n c M : Nat) (cs : List Int) (w : World) (e : Ending) (w' : World) : Prop :=
  ∃ (zs : List Int) (v : Value), e = .returned v ∧ w'.ownsRow w.heap.size 2 1 v zs.length (zs.map (Value.int .i64)) ∧ zs.length ≤ 101 ∧ Hid (∀ z ∈ zs, -1 ≤ z ∧ z ≤ 4001) ∧ Src w' b A n c (M + 100) cs ∧ w.grownBy w' (some b)
theorem own_ne {w : World} {base : Nat} {e : TypeId} {size : Nat} {v : Value} {n : Nat} {xs : List Value} {b : Nat} (h : w.ownsRow base e size v n xs) (hb : b < base) : v.ownBlock ≠ some b := by
  intro e
  have := (h.lt b e).1
  omega
theorem made_blk (w : World) (t : TypeId) (n : Nat) : Blk (w.alloc (.cells (madeCells #[Value.int .i64 0] n) t)) w.heap.size t (List.replicate n (Value.int .i64 0)).toArray := by
  rw [← made_one]; exact Blk.new _ _ _
theorem row_of_blk {w : World} {g base : Nat} {t : TypeId} {vs : List Value} (h : Blk w g t vs.toArray) (hb : base ≤ g) (hm : vs.length ≤ maxLen) : w.ownsRow base t 1 (.slice (some ⟨g, 0, none⟩) vs.length vs.length) vs.length vs :=
  ⟨by simp, .inr ⟨g, vs.length, vs.toArray, rfl, hb, h, Nat.le_refl _, hm, by simp, by simp⟩⟩
end Go.Proofs.YtbepfonpfnllkaaDoor
