/- Draws: helpers for stores into boxes, choices among literal lists. No conditions. -/
import Derived.Test.YtcfbihponecblaaG06
import Derived.Deep.RegionHeld3
import Derived.Deep.DeepCutAuto
import Derived.Test.YtcfbihponecblaaG01
import Derived.Test.YtcfbihponecblaaG02
import Derived.Test.YtcfbihponecblaaG05
import Derived.Test.YtcfbihponecblaaG04
/- A player after some games, by the reference. Conditions: sums of at most 198000. -/
namespace Go.Proofs.Ytcfbihponecblaa
set_option linter.unusedSimpArgs false
set_option linter.unusedVariables false
open Go.RowKit

theorem boxed2' (w : World) (o : Obj) : Below w.heap.size w (w.alloc o) := Below.alloc (Below.refl _ _) (Nat.le_refl _) o
theorem below_b2 {w w' : World} {o o' : Obj} (h : Below ((w.alloc o).alloc o').heap.size ((w.alloc o).alloc o') w') : Below w.heap.size w w' := Below.via h (Below.alloc (Below.alloc (Below.refl _ _) (Nat.le_refl _) _) (by simp) _) (by simp; omega)
theorem box2_keep {W0 W W' : World} {g : Nat} {u1 u2 : Value} (h : (W.cell? ⟨g, 0, none⟩ = some u1 ∧ W.cell? ⟨g, 1, none⟩ = some u2) ∧ Below W0.heap.size W0 W) (hb : Below W.heap.size W W') : (W'.cell? ⟨g, 0, none⟩ = some u1 ∧ W'.cell? ⟨g, 1, none⟩ = some u2) ∧ Below W0.heap.size W0 W' := by
  obtain ⟨⟨a0, a1⟩, hB⟩ := h
  have l0 := cell_lt a0
  exact ⟨⟨(hb.cell (p := ⟨_, _, none⟩) l0).trans a0, (hb.cell (p := ⟨_, _, none⟩) l0).trans a1⟩, Below.via hb hB hB.size⟩
theorem box2_drew {W0 W : World} {g : Nat} {u1 u2 : Value} (h : (W.cell? ⟨g, 0, none⟩ = some u1 ∧ W.cell? ⟨g, 1, none⟩ = some u2) ∧ Below W0.heap.size W0 W) : (W.drew.cell? ⟨g, 0, none⟩ = some u1 ∧ W.drew.cell? ⟨g, 1, none⟩ = some u2) ∧ Below W0.heap.size W0 W.drew := ⟨h.1, Below.drew h.2⟩
end Go.Proofs.Ytcfbihponecblaa
/- Sums of scores and of games: the first loop of the program's rated. Conditions: at most 100 players and games. -/
namespace Go.Proofs.Ytcfbihponecblaa
set_option linter.unusedSimpArgs false
set_option linter.unusedVariables false
open Go.RowKit

def ix (G : List Int) (p : Nat) : Nat := (G.getD p 0).toNat
def ownG (L G : List Int) (k : Nat) : Int := 500 * G.getD (k * 3 + 2) 0 - expE (L.getD (ix G (k * 3) * 2) 0 - L.getD (ix G (k * 3 + 1) * 2) 0)
def add1 (s : List Int) (i : Nat) (v : Int) : List Int := s.set i (s.getD i 0 + v)
def sumsL (L G : List Int) (n : Nat) : Nat → List Int
  | 0 => List.replicate n 0
  | k + 1 => add1 (add1 (sumsL L G n k) (ix G (k * 3)) (ownG L G k)) (ix G (k * 3 + 1)) (-(ownG L G k))
def cntL (G : List Int) (n : Nat) : Nat → List Int
  | 0 => List.replicate n 0
  | k + 1 => add1 (add1 (cntL G n k) (ix G (k * 3)) 1) (ix G (k * 3 + 1)) 1
theorem add1_len (s : List Int) (i : Nat) (v : Int) : (add1 s i v).length = s.length := by simp [add1]
theorem sumsL_len (L G : List Int) (n k : Nat) : (sumsL L G n k).length = n := by
  induction k with
  | zero => simp [sumsL]
  | succ k ih => rw [sumsL, add1_len, add1_len, ih]
theorem cntL_len (G : List Int) (n k : Nat) : (cntL G n k).length = n := by
  induction k with
  | zero => simp [cntL]
  | succ k ih => rw [cntL, add1_len, add1_len, ih]
theorem add1_at (s : List Int) (i j : Nat) (v : Int) : (add1 s i v).getD j 0 = if i = j ∧ i < s.length then s.getD i 0 + v else s.getD j 0 := by
  rw [add1, List.getD_eq_getElem?_getD, List.getElem?_set]
  by_cases h : i = j
  · subst h
    by_cases h2 : i < s.length
    · simp [h2]
    · simp [h2, List.getD_eq_getElem?_getD]
  · simp [h, List.getD_eq_getElem?_getD]
theorem add1_bd {s : List Int} {i : Nat} {v lo hi m : Int} (h : ∀ j, lo ≤ s.getD j 0 ∧ s.getD j 0 ≤ hi) (h1 : -m ≤ v) (h2 : v ≤ m) (h0 : 0 ≤ m) (j : Nat) : lo - m ≤ (add1 s i v).getD j 0 ∧ (add1 s i v).getD j 0 ≤ hi + m := by
  rw [add1_at]
  have a := h i
  have b := h j
  split <;> omega
theorem add1_two {s : List Int} {a b : Nat} {v u : Int} (hab : a ≠ b) : add1 (add1 s a v) b u = (s.set a (s.getD a 0 + v)).set b (s.getD b 0 + u) := by
  have h : (add1 s a v).getD b 0 = s.getD b 0 := by rw [add1_at, if_neg (fun h => hab h.1)]
  rw [add1, h, add1]
theorem bbox {w w' : World} {o : Obj} (h : Below (w.alloc o).heap.size (w.alloc o) w') : Below w.heap.size w w' := Below.via h (boxed2' w o) (by simp)
theorem rep_zero (n j : Nat) : (List.replicate n (0 : Int)).getD j 0 = 0 := by
  rw [List.getD_eq_getElem?_getD, List.getElem?_replicate]
  split <;> rfl
/-- The games and the players that are rated. -/
structure GOk (L G : List Int) (n m : Nat) : Prop where
  a : ∀ k, k < m → 0 ≤ G.getD (k * 3) 0 ∧ G.getD (k * 3) 0 < n
  b : ∀ k, k < m → 0 ≤ G.getD (k * 3 + 1) 0 ∧ G.getD (k * 3 + 1) 0 < n
  ne : ∀ k, k < m → G.getD (k * 3) 0 ≠ G.getD (k * 3 + 1) 0
  s : ∀ k, k < m → 0 ≤ G.getD (k * 3 + 2) 0 ∧ G.getD (k * 3 + 2) 0 ≤ 2
  r : ∀ i, i < n → 0 ≤ L.getD (i * 2) 0 ∧ L.getD (i * 2) 0 ≤ 4000 ∧ 0 ≤ L.getD (i * 2 + 1) 0 ∧ L.getD (i * 2 + 1) 0 ≤ 1000000
theorem ownG_bd {L G : List Int} {n m k : Nat} (h : GOk L G n m) (hk : k < m) : -990 ≤ ownG L G k ∧ ownG L G k ≤ 990 := by
  have h1 := h.s k hk
  have h2 := expE_bd (L.getD (ix G (k * 3) * 2) 0 - L.getD (ix G (k * 3 + 1) * 2) 0)
  unfold ownG
  omega
theorem sumsL_bd {L G : List Int} {n m k : Nat} (h : GOk L G n m) (hk : k ≤ m) (j : Nat) : -(1980 * (k : Int)) ≤ (sumsL L G n k).getD j 0 ∧ (sumsL L G n k).getD j 0 ≤ 1980 * (k : Int) := by
  induction k generalizing j with
  | zero => rw [sumsL, rep_zero]; omega
  | succ k ih =>
    obtain ⟨o1, o2⟩ := ownG_bd h (show k < m by omega)
    have h1 := fun j => ih (by omega) j
    have h2 := add1_bd (i := ix G (k * 3)) (v := ownG L G k) (m := 990) h1 o1 o2 (by omega)
    have h3 := add1_bd (i := ix G (k * 3 + 1)) (v := -ownG L G k) (m := 990) h2 (by omega) (by omega) (by omega) j
    rw [sumsL]
    omega
theorem cntL_bd (G : List Int) (n k j : Nat) : 0 ≤ (cntL G n k).getD j 0 ∧ (cntL G n k).getD j 0 ≤ 2 * (k : Int) := by
  induction k generalizing j with
  | zero => rw [cntL, rep_zero]; omega
  | succ k ih =>
    rw [cntL, add1_at, add1_at, add1_at]
    have h1 := ih j
    have h2 := ih (ix G (k * 3))
    have h3 := ih (ix G (k * 3 + 1))
    split <;> split <;> (try split) <;> omega
theorem aget {zs : List Int} {d : Nat} (h : d < zs.length) : (zs.map (Value.int .i64)).toArray[d]? = some (.int .i64 (zs.getD d 0)) := by
  rw [List.getElem?_toArray]; exact getD_map_int h
theorem aset (zs : List Int) (d : Nat) (v : Int) : (zs.map (Value.int .i64)).toArray.setIfInBounds d (.int .i64 v) = ((zs.set d v).map (Value.int .i64)).toArray := by
  rw [List.setIfInBounds_toArray, ← List.map_set]
theorem Blk.dr {w : World} {g : Nat} {t : TypeId} {cs : Array Value} (h : Blk w g t cs) : Blk w.drew g t cs := h
theorem Blk.setO {w : World} {g : Nat} {t : TypeId} {cs : Array Value} (h : Blk w g t cs) {p : Addr} (u : Value) (hne : g ≠ p.block) : Blk (w.setCell p u) g t cs := (Below.heap_setCell w p u g hne).trans h
theorem box5_keep {W0 W W' : World} {g bl o1 o2 : Nat} {u0 u1 u2 u3 u4 : Value} (h : (W.cell? ⟨g, 0, none⟩ = some u0 ∧ W.cell? ⟨g, 1, none⟩ = some u1 ∧ W.cell? ⟨g, 2, none⟩ = some u2) ∧ (W.cell? ⟨bl, o1, none⟩ = some u3 ∧ W.cell? ⟨bl, o2, none⟩ = some u4) ∧ Below W0.heap.size W0 W) (hb : Below W.heap.size W W') : (W'.cell? ⟨g, 0, none⟩ = some u0 ∧ W'.cell? ⟨g, 1, none⟩ = some u1 ∧ W'.cell? ⟨g, 2, none⟩ = some u2) ∧ (W'.cell? ⟨bl, o1, none⟩ = some u3 ∧ W'.cell? ⟨bl, o2, none⟩ = some u4) ∧ Below W0.heap.size W0 W' := by
  obtain ⟨⟨a0, a1, a2⟩, ⟨b0, b1⟩, hB⟩ := h
  have l0 := cell_lt a0
  have l1 := cell_lt b0
  exact ⟨⟨(hb.cell (p := ⟨_, _, none⟩) l0).trans a0, (hb.cell (p := ⟨_, _, none⟩) l0).trans a1, (hb.cell (p := ⟨_, _, none⟩) l0).trans a2⟩, ⟨(hb.cell (p := ⟨_, _, none⟩) l1).trans b0, (hb.cell (p := ⟨_, _, none⟩) l1).trans b1⟩, Below.via hb hB hB.size⟩
theorem box5_drew {W0 W : World} {g bl o1 o2 : Nat} {u0 u1 u2 u3 u4 : Value} (h : (W.cell? ⟨g, 0, none⟩ = some u0 ∧ W.cell? ⟨g, 1, none⟩ = some u1 ∧ W.cell? ⟨g, 2, none⟩ = some u2) ∧ (W.cell? ⟨bl, o1, none⟩ = some u3 ∧ W.cell? ⟨bl, o2, none⟩ = some u4) ∧ Below W0.heap.size W0 W) : (W.drew.cell? ⟨g, 0, none⟩ = some u0 ∧ W.drew.cell? ⟨g, 1, none⟩ = some u1 ∧ W.drew.cell? ⟨g, 2, none⟩ = some u2) ∧ (W.drew.cell? ⟨bl, o1, none⟩ = some u3 ∧ W.drew.cell? ⟨bl, o2, none⟩ = some u4) ∧ Below W0.heap.size W0 W.drew := ⟨h.1, h.2.1, Below.drew h.2.2⟩
theorem box4_keep {W W' : World} {g gs gc o1 : Nat} {u0 u1 u2 u3 : Value} (h : (W.cell? ⟨g, 0, none⟩ = some u0 ∧ W.cell? ⟨g, 1, none⟩ = some u1) ∧ (W.cell? ⟨gs, o1, none⟩ = some u2 ∧ W.cell? ⟨gc, o1, none⟩ = some u3)) (hb : Below W.heap.size W W') : (W'.cell? ⟨g, 0, none⟩ = some u0 ∧ W'.cell? ⟨g, 1, none⟩ = some u1) ∧ (W'.cell? ⟨gs, o1, none⟩ = some u2 ∧ W'.cell? ⟨gc, o1, none⟩ = some u3) := by
  obtain ⟨⟨a0, a1⟩, ⟨b0, b1⟩⟩ := h
  exact ⟨⟨(hb.cell (p := ⟨_, _, none⟩) (cell_lt a0)).trans a0, (hb.cell (p := ⟨_, _, none⟩) (cell_lt a0)).trans a1⟩, ⟨(hb.cell (p := ⟨_, _, none⟩) (cell_lt b0)).trans b0, (hb.cell (p := ⟨_, _, none⟩) (cell_lt b1)).trans b1⟩⟩
theorem box4_drew {W : World} {g gs gc o1 : Nat} {u0 u1 u2 u3 : Value} (h : (W.cell? ⟨g, 0, none⟩ = some u0 ∧ W.cell? ⟨g, 1, none⟩ = some u1) ∧ (W.cell? ⟨gs, o1, none⟩ = some u2 ∧ W.cell? ⟨gc, o1, none⟩ = some u3)) : (W.drew.cell? ⟨g, 0, none⟩ = some u0 ∧ W.drew.cell? ⟨g, 1, none⟩ = some u1) ∧ (W.drew.cell? ⟨gs, o1, none⟩ = some u2 ∧ W.drew.cell? ⟨gc, o1, none⟩ = some u3) := h
theorem box4_alloc {W : World} {g gs gc o1 : Nat} {u0 u1 u2 u3 : Value} (h : (W.cell? ⟨g, 0, none⟩ = some u0 ∧ W.cell? ⟨g, 1, none⟩ = some u1) ∧ (W.cell? ⟨gs, o1, none⟩ = some u2 ∧ W.cell? ⟨gc, o1, none⟩ = some u3)) (o : Obj) : ((W.alloc o).cell? ⟨g, 0, none⟩ = some u0 ∧ (W.alloc o).cell? ⟨g, 1, none⟩ = some u1) ∧ ((W.alloc o).cell? ⟨gs, o1, none⟩ = some u2 ∧ (W.alloc o).cell? ⟨gc, o1, none⟩ = some u3) := box4_keep h (boxed2' _ _)
theorem box4_grown {W W' : World} {g gs gc o1 : Nat} {u0 u1 u2 u3 : Value} {r : Option Nat} (h : (W.cell? ⟨g, 0, none⟩ = some u0 ∧ W.cell? ⟨g, 1, none⟩ = some u1) ∧ (W.cell? ⟨gs, o1, none⟩ = some u2 ∧ W.cell? ⟨gc, o1, none⟩ = some u3)) (hg : W.grownBy W' r) (n1 : some g ≠ r) (n2 : some gs ≠ r) (n3 : some gc ≠ r) : (W'.cell? ⟨g, 0, none⟩ = some u0 ∧ W'.cell? ⟨g, 1, none⟩ = some u1) ∧ (W'.cell? ⟨gs, o1, none⟩ = some u2 ∧ W'.cell? ⟨gc, o1, none⟩ = some u3) := by
  obtain ⟨⟨a0, a1⟩, ⟨b0, b1⟩⟩ := h
  exact ⟨⟨(World.cell?_of_block (a := ⟨_, _, none⟩) (hg.block _ (cell_lt a0) n1)).trans a0, (World.cell?_of_block (a := ⟨_, _, none⟩) (hg.block _ (cell_lt a0) n1)).trans a1⟩, ⟨(World.cell?_of_block (a := ⟨_, _, none⟩) (hg.block _ (cell_lt b0) n2)).trans b0, (World.cell?_of_block (a := ⟨_, _, none⟩) (hg.block _ (cell_lt b1) n3)).trans b1⟩⟩
theorem below_app2 {B : Nat} {a w w' : World} {base : Nat} {e : TypeId} {size n : Nat} {v : Value} {xs : List Value} (h : Below B a w) (ho : w.ownsRow base e size v n xs) (hg : w.grownBy w' v.ownBlock) (hbb : B ≤ base) (hB : B ≤ w.heap.size) : Below B a w' := below_app h ho hg hbb hB
def outL (L S C : List Int) : Nat → List Int
  | 0 => []
  | k + 1 => outL L S C k ++ [mvA (L.getD (k * 2) 0) (L.getD (k * 2 + 1) 0) (S.getD k 0), mvB (L.getD (k * 2 + 1) 0) (C.getD k 0)]
theorem outL_len (L S C : List Int) (k : Nat) : (outL L S C k).length = k * 2 := by
  induction k with
  | zero => rfl
  | succ k ih => rw [outL, List.length_append, ih, Nat.succ_mul]; rfl
def ratedL (L G : List Int) (n m : Nat) : List Int := outL L (sumsL L G n m) (cntL G n m) n
theorem info_int64r : (Try.prog.info? 2).map (fun i => (i.zero, i.size, i.bytes)) = some (some (.int .i64 0), 1, 8) := by kernel_rfl
end Go.Proofs.Ytcfbihponecblaa
/- Draws of ratings for expectations. Conditions: at most 2^20 bytes. -/
namespace Go.Proofs.Ytcfbihponecblaa
set_option linter.unusedSimpArgs false
set_option linter.unusedVariables false
open Go.RowKit Go.WideShapes Go.ChangeShapes

/-- A drawn list of ratings. -/
def OthP (b : Nat) (A : Option Addr) (n c M : Nat) (cs : List Int) (w : World) (e : Ending) (w' : World) : Prop :=
  ∃ (zs : List Int) (v : Value), e = .returned v ∧ w'.ownsRow w.heap.size 2 1 v zs.length (zs.map (Value.int .i64)) ∧ zs.length ≤ 101 ∧ Hid (∀ z ∈ zs, -1 ≤ z ∧ z ≤ 4001) ∧ Src w' b A n c (M + 100) cs ∧ w.grownBy w' (some b)
theorem own_ne {w : World} {base : Nat} {e : TypeId} {size : Nat} {v : Value} {n : Nat} {xs : List Value} {b : Nat} (h : w.ownsRow base e size v n xs) (hb : b < base) : v.ownBlock ≠ some b := by
  intro e
  have := (h.lt b e).1
  omega
theorem made_blk (w : World) (t : TypeId) (n : Nat) : Blk (w.alloc (.cells (madeCells #[Value.int .i64 0] n) t)) w.heap.size t (List.replicate n (Value.int .i64 0)).toArray := by
  rw [← made_one]; exact Blk.new _ _ _
theorem row_of_blk {w : World} {g base : Nat} {t : TypeId} {vs : List Value} (h : Blk w g t vs.toArray) (hb : base ≤ g) (hm : vs.length ≤ maxLen) : w.ownsRow base t 1 (.slice (some ⟨g, 0, none⟩) vs.length vs.length) vs.length vs :=
  ⟨by simp, .inr ⟨g, vs.length, vs.toArray, rfl, hb, h, Nat.le_refl _, hm, by simp, by simp⟩⟩
end Go.Proofs.Ytcfbihponecblaa
/- Draws: helpers for stores into boxes, choices among literal lists. No conditions. -/
namespace Go.Proofs.Ytcfbihponecblaa
set_option linter.unusedSimpArgs false
set_option linter.unusedVariables false
open Go.RowKit Go.WideShapes Go.ChangeShapes

theorem blk_setF {w : World} {g g' o : Nat} {t : TypeId} {cs : Array Value} {u : Value} (h : Blk w g t cs) (hne : g ≠ g') : Blk (w.setCell ⟨g', o, none⟩ u) g t cs := (Below.heap_setCell w ⟨g', o, none⟩ u g hne).trans h
theorem own_setF {w : World} {g g' o n : Nat} {t : TypeId} {A : Option Addr} {vs : List Value} {u : Value} (h : OwnV w g t 1 A n vs) (hne : g ≠ g') : OwnV (w.setCell ⟨g', o, none⟩ u) g t 1 A n vs := ⟨h.len, fun hn => ⟨(h.blk hn).1, (h.blk hn).2.elim fun rest hb => ⟨rest, blk_setF hb hne⟩⟩⟩
theorem own_drF {w : World} {g n : Nat} {t : TypeId} {A : Option Addr} {vs : List Value} (h : OwnV w g t 1 A n vs) : OwnV w.drew g t 1 A n vs := ⟨h.len, h.blk⟩
theorem src_drF {w : World} {b n c M : Nat} {A : Option Addr} {zs : List Int} (h : Src w b A n c M zs) : Src w.drew b A n c M zs := src_dr h 1
theorem grown_drF {a w : World} {r : Option Nat} (h : a.grownBy w r) : a.grownBy w.drew r := ⟨h.os, h.tape, h.output, h.size, h.block⟩
theorem grown_far {a w w' : World} {r : Option Nat} (h : a.grownBy w r) (hb : Below w.heap.size w w') : a.grownBy w' r :=
  ⟨hb.os.trans h.os, hb.tape.trans h.tape, hb.output.trans h.output, Nat.le_trans h.size hb.size, fun k hk hne => (hb.block k (Nat.lt_of_lt_of_le hk h.size)).trans (h.block k hk hne)⟩
theorem set_grown {a w : World} {b : Nat} {p : Addr} {u : Value} (h : a.grownBy w (some b)) (hq : a.heap.size ≤ p.block) : a.grownBy (w.setCell p u) (some b) :=
  ⟨h.os, h.tape, h.output, Nat.le_trans h.size (sizeSet _ _ _), fun k hk hne => (Below.heap_setCell w p u k (by omega)).trans (h.block k hk hne)⟩
theorem c1_alloc {w : World} {p : Addr} {v : Value} {o : Obj} (h : w.cell? p = some v) : (w.alloc o).cell? p = some v := by
  obtain ⟨b, off, p3⟩ := p
  have hb : Below w.heap.size w (w.alloc o) := Below.alloc (Below.refl _ _) (Nat.le_refl _) _
  rcases Nat.lt_or_ge b w.heap.size with hlt | hge
  · exact (hb.cell (p := ⟨b, off, p3⟩) hlt).trans h
  · have e : w.heap[b]? = none := Array.getElem?_eq_none hge
    simp [World.cell?, e] at h
theorem c1_set {w : World} {q g o k : Nat} {v u : Value} (h : w.cell? ⟨q, k, none⟩ = some v) (hne : g ≠ q) : (w.setCell ⟨g, o, none⟩ u).cell? ⟨q, k, none⟩ = some v := (World.cell?_setCell_other _ _ _ _ (fun e => by injection e with e; omega)).trans h
theorem c1_allocD {w : World} {p : Addr} {v : Value} {o : Obj} (h : w.drew.cell? p = some v) : (w.alloc o).drew.cell? p = some v := c1_alloc (w := w) (o := o) h
theorem cell_over {w w' : World} {p : Addr} {row : Option Nat} (hg : w.grownBy w' row) (hlt : p.block < w.heap.size) (hne : row ≠ some p.block) : w'.cell? p = w.cell? p := by
  have hk := hg.block p.block hlt (fun e => hne e.symm)
  simp only [World.cell?, hk]
def AmQ (b : Nat) (A : Option Addr) (n c M : Nat) (cs zs : List Int) (w : World) (e : Ending) (w' : World) : Prop := ∃ x : Int, e = .returned (.int .i64 x) ∧ x ∈ zs ∧ Src w' b A n c (M + 2) cs ∧ w.grownBy w' (some b)
theorem amongW (b : Nat) (A : Option Addr) (n c M : Nat) (cs zs : List Int) (m : Nat) (w : World) (h : Src w b A n c M cs) (hn : n ≤ 1048576) (hM : M ≤ 999999998) (hm : zs.length = m) (h2 : 2 ≤ m) (h3 : m ≤ 1000) :
    Calls Try.prog 23 #[.pointer (some ⟨b, 0, none⟩), .slice (some ⟨w.heap.size, 0, none⟩) m m] (w.alloc (.cells (zs.map (Value.int .i64)).toArray 2)) (AmQ b A n c M cs zs w) := by
  have hl := h.lt
  refine (among_any b A n c M cs w.heap.size m m zs _ (h.later (Below.alloc (Below.refl _ _) (Nat.le_refl _) _)) hn hM (Sl.built (by simp [hm]) (by simp) (by simp [hm])) (by omega) h2 h3).mono ?_
  rintro e w' ⟨x, rfl, hx, s, g⟩
  exact ⟨x, rfl, hx, s, grown_tr (grown_alloc (World.grownBy.refl _ _) _) g⟩
theorem amongWD (b : Nat) (A : Option Addr) (n c M : Nat) (cs zs : List Int) (m : Nat) (w : World) (h : Src w b A n c M cs) (hn : n ≤ 1048576) (hM : M ≤ 999999998) (hm : zs.length = m) (h2 : 2 ≤ m) (h3 : m ≤ 1000) :
    Calls Try.prog 23 #[.pointer (some ⟨b, 0, none⟩), .slice (some ⟨w.heap.size, 0, none⟩) m m] (w.alloc (.cells (zs.map (Value.int .i64)).toArray 2)).drew (AmQ b A n c M cs zs w) := by
  have hl := h.lt
  refine (among_any b A n c M cs w.heap.size m m zs _ (src_drF (h.later (Below.alloc (Below.refl _ _) (Nat.le_refl _) _))) hn hM (Sl.drew (Sl.built (by simp [hm]) (by simp) (by simp [hm]))) (by omega) h2 h3).mono ?_
  rintro e w' ⟨x, rfl, hx, s, g⟩
  exact ⟨x, rfl, hx, s, grown_tr (grown_drF (grown_alloc (World.grownBy.refl _ _) _)) g⟩
def TxQ (b : Nat) (A : Option Addr) (n c M : Nat) (cs : List Int) (ss : List ByteArray) (w : World) (e : Ending) (w' : World) : Prop := ∃ x : ByteArray, e = .returned (.string x) ∧ x ∈ ss ∧ Src w' b A n c (M + 2) cs ∧ w.grownBy w' (some b)
theorem textW (b : Nat) (A : Option Addr) (n c M : Nat) (cs : List Int) (ss : List ByteArray) (m : Nat) (w : World) (h : Src w b A n c M cs) (hn : n ≤ 1048576) (hM : M ≤ 999999998) (hm : ss.length = m) (h2 : 2 ≤ m) (h3 : m ≤ 1000) :
    Calls Try.prog 35 #[.pointer (some ⟨b, 0, none⟩), .slice (some ⟨w.heap.size, 0, none⟩) m m] (w.alloc (.cells (ss.map Value.string).toArray 9)) (TxQ b A n c M cs ss w) := by
  have hl := h.lt
  refine (textD_any b A n c M cs w.heap.size m m ss _ (h.later (Below.alloc (Below.refl _ _) (Nat.le_refl _) _)) hn hM ⟨by simpa using hm, fun _ => ⟨_, 0, rfl, by simp, fun j u hu => by rw [Nat.zero_add, (Blk.new w 9 _).cell, List.getElem?_toArray]; exact hu⟩⟩ (by omega) h2 h3).mono ?_
  rintro e w' ⟨x, rfl, hx, s, g⟩
  exact ⟨x, rfl, hx, s, grown_tr (grown_alloc (World.grownBy.refl _ _) _) g⟩
theorem blk3 {w : World} {b : Nat} {t : TypeId} {a0 a1 a2 : Value} (h : Blk w b t #[a0, a1, a2]) : (w.cell? ⟨b, 0, none⟩ = some a0 ∧ w.cell? ⟨b, 1, none⟩ = some a1 ∧ w.cell? ⟨b, 2, none⟩ = some a2) ∧ (w.frozen? ⟨b, 0, none⟩ = false ∧ w.frozen? ⟨b, 1, none⟩ = false ∧ w.frozen? ⟨b, 2, none⟩ = false) ∧ b < w.heap.size :=
  ⟨⟨h.cell 0, h.cell 1, h.cell 2⟩, ⟨h.free 0, h.free 1, h.free 2⟩, h.lt⟩
theorem blk4 {w : World} {b : Nat} {t : TypeId} {a0 a1 a2 a3 : Value} (h : Blk w b t #[a0, a1, a2, a3]) : (w.cell? ⟨b, 0, none⟩ = some a0 ∧ w.cell? ⟨b, 1, none⟩ = some a1 ∧ w.cell? ⟨b, 2, none⟩ = some a2 ∧ w.cell? ⟨b, 3, none⟩ = some a3) ∧ (w.frozen? ⟨b, 0, none⟩ = false ∧ w.frozen? ⟨b, 1, none⟩ = false ∧ w.frozen? ⟨b, 2, none⟩ = false ∧ w.frozen? ⟨b, 3, none⟩ = false) ∧ b < w.heap.size :=
  ⟨⟨h.cell 0, h.cell 1, h.cell 2, h.cell 3⟩, ⟨h.free 0, h.free 1, h.free 2, h.free 3⟩, h.lt⟩
theorem blk9 {w : World} {b : Nat} {t : TypeId} {a0 a1 a2 a3 a4 a5 a6 a7 a8 : Value} (h : Blk w b t #[a0, a1, a2, a3, a4, a5, a6, a7, a8]) : (w.cell? ⟨b, 0, none⟩ = some a0 ∧ w.cell? ⟨b, 1, none⟩ = some a1 ∧ w.cell? ⟨b, 2, none⟩ = some a2 ∧ w.cell? ⟨b, 3, none⟩ = some a3 ∧ w.cell? ⟨b, 4, none⟩ = some a4 ∧ w.cell? ⟨b, 5, none⟩ = some a5 ∧ w.cell? ⟨b, 6, none⟩ = some a6 ∧ w.cell? ⟨b, 7, none⟩ = some a7 ∧ w.cell? ⟨b, 8, none⟩ = some a8) ∧ (w.frozen? ⟨b, 0, none⟩ = false ∧ w.frozen? ⟨b, 1, none⟩ = false ∧ w.frozen? ⟨b, 2, none⟩ = false ∧ w.frozen? ⟨b, 3, none⟩ = false ∧ w.frozen? ⟨b, 4, none⟩ = false ∧ w.frozen? ⟨b, 5, none⟩ = false ∧ w.frozen? ⟨b, 6, none⟩ = false ∧ w.frozen? ⟨b, 7, none⟩ = false ∧ w.frozen? ⟨b, 8, none⟩ = false) ∧ b < w.heap.size :=
  ⟨⟨h.cell 0, h.cell 1, h.cell 2, h.cell 3, h.cell 4, h.cell 5, h.cell 6, h.cell 7, h.cell 8⟩, ⟨h.free 0, h.free 1, h.free 2, h.free 3, h.free 4, h.free 5, h.free 6, h.free 7, h.free 8⟩, h.lt⟩
theorem st9_blk {w : World} {q : Nat} {t : TypeId} {a0 a1 a2 a3 a4 a5 a6 a7 a8 v0 v1 v2 v3 v4 v5 v6 v7 v8 : Value} (h : Blk w q t #[a0, a1, a2, a3, a4, a5, a6, a7, a8]) : Blk (((((((((w.setCell ⟨q, 0, none⟩ v0).setCell ⟨q, 1, none⟩ v1).setCell ⟨q, 2, none⟩ v2).setCell ⟨q, 3, none⟩ v3).setCell ⟨q, 4, none⟩ v4).setCell ⟨q, 5, none⟩ v5).setCell ⟨q, 6, none⟩ v6).setCell ⟨q, 7, none⟩ v7).setCell ⟨q, 8, none⟩ v8) q t #[v0, v1, v2, v3, v4, v5, v6, v7, v8] := by
  have h : Blk (w.setCell ⟨q, 0, none⟩ v0) q t #[v0, a1, a2, a3, a4, a5, a6, a7, a8] := by have x := h.set 0 v0; simpa only [List.setIfInBounds_toArray, List.set_cons_zero, List.set_cons_succ] using x
  have h : Blk ((w.setCell ⟨q, 0, none⟩ v0).setCell ⟨q, 1, none⟩ v1) q t #[v0, v1, a2, a3, a4, a5, a6, a7, a8] := by have x := h.set 1 v1; simpa only [List.setIfInBounds_toArray, List.set_cons_zero, List.set_cons_succ] using x
  have h : Blk (((w.setCell ⟨q, 0, none⟩ v0).setCell ⟨q, 1, none⟩ v1).setCell ⟨q, 2, none⟩ v2) q t #[v0, v1, v2, a3, a4, a5, a6, a7, a8] := by have x := h.set 2 v2; simpa only [List.setIfInBounds_toArray, List.set_cons_zero, List.set_cons_succ] using x
  have h : Blk ((((w.setCell ⟨q, 0, none⟩ v0).setCell ⟨q, 1, none⟩ v1).setCell ⟨q, 2, none⟩ v2).setCell ⟨q, 3, none⟩ v3) q t #[v0, v1, v2, v3, a4, a5, a6, a7, a8] := by have x := h.set 3 v3; simpa only [List.setIfInBounds_toArray, List.set_cons_zero, List.set_cons_succ] using x
  have h : Blk (((((w.setCell ⟨q, 0, none⟩ v0).setCell ⟨q, 1, none⟩ v1).setCell ⟨q, 2, none⟩ v2).setCell ⟨q, 3, none⟩ v3).setCell ⟨q, 4, none⟩ v4) q t #[v0, v1, v2, v3, v4, a5, a6, a7, a8] := by have x := h.set 4 v4; simpa only [List.setIfInBounds_toArray, List.set_cons_zero, List.set_cons_succ] using x
  have h : Blk ((((((w.setCell ⟨q, 0, none⟩ v0).setCell ⟨q, 1, none⟩ v1).setCell ⟨q, 2, none⟩ v2).setCell ⟨q, 3, none⟩ v3).setCell ⟨q, 4, none⟩ v4).setCell ⟨q, 5, none⟩ v5) q t #[v0, v1, v2, v3, v4, v5, a6, a7, a8] := by have x := h.set 5 v5; simpa only [List.setIfInBounds_toArray, List.set_cons_zero, List.set_cons_succ] using x
  have h : Blk (((((((w.setCell ⟨q, 0, none⟩ v0).setCell ⟨q, 1, none⟩ v1).setCell ⟨q, 2, none⟩ v2).setCell ⟨q, 3, none⟩ v3).setCell ⟨q, 4, none⟩ v4).setCell ⟨q, 5, none⟩ v5).setCell ⟨q, 6, none⟩ v6) q t #[v0, v1, v2, v3, v4, v5, v6, a7, a8] := by have x := h.set 6 v6; simpa only [List.setIfInBounds_toArray, List.set_cons_zero, List.set_cons_succ] using x
  have h : Blk ((((((((w.setCell ⟨q, 0, none⟩ v0).setCell ⟨q, 1, none⟩ v1).setCell ⟨q, 2, none⟩ v2).setCell ⟨q, 3, none⟩ v3).setCell ⟨q, 4, none⟩ v4).setCell ⟨q, 5, none⟩ v5).setCell ⟨q, 6, none⟩ v6).setCell ⟨q, 7, none⟩ v7) q t #[v0, v1, v2, v3, v4, v5, v6, v7, a8] := by have x := h.set 7 v7; simpa only [List.setIfInBounds_toArray, List.set_cons_zero, List.set_cons_succ] using x
  have h : Blk (((((((((w.setCell ⟨q, 0, none⟩ v0).setCell ⟨q, 1, none⟩ v1).setCell ⟨q, 2, none⟩ v2).setCell ⟨q, 3, none⟩ v3).setCell ⟨q, 4, none⟩ v4).setCell ⟨q, 5, none⟩ v5).setCell ⟨q, 6, none⟩ v6).setCell ⟨q, 7, none⟩ v7).setCell ⟨q, 8, none⟩ v8) q t #[v0, v1, v2, v3, v4, v5, v6, v7, v8] := by have x := h.set 8 v8; simpa only [List.setIfInBounds_toArray, List.set_cons_zero, List.set_cons_succ] using x
  exact h
end Go.Proofs.Ytcfbihponecblaa
