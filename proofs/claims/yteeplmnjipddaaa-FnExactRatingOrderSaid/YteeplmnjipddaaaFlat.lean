/- Blocks that are known whole; slices of structs of numbers as flat lists. No conditions. -/
import Derived.Test.YteeplmnjipddaaaSl
import Derived.Laws.MakeOwn
import Derived.OneCell
import Derived.StillTailTactics
import Derived.Deep.RegionWith
namespace Go.Proofs.Yteeplmnjipddaaa
set_option linter.unusedSimpArgs false
set_option linter.unusedVariables false
open Go.RowKit

/-- Block g is just the cells cs. -/
def Blk (w : World) (g : Nat) (t : TypeId) (cs : Array Value) : Prop := w.heap[g]? = some (.cells cs t (0, 0))
section
variable {w w' : World} {g : Nat} {t : TypeId} {cs : Array Value}
theorem Blk.lt (h : Blk w g t cs) : g < w.heap.size := by
  rcases Nat.lt_or_ge g w.heap.size with hlt | hge
  · exact hlt
  · unfold Blk at h; rw [Array.getElem?_eq_none hge] at h; cases h
theorem Blk.cell (h : Blk w g t cs) (i : Nat) : w.cell? ⟨g, i, none⟩ = cs[i]? := by
  unfold Blk at h
  simp [World.cell?, h]
theorem Blk.free (h : Blk w g t cs) (i : Nat) : w.frozen? ⟨g, i, none⟩ = false := by
  unfold Blk at h
  simp [World.frozen?, h]
theorem Blk.new (w : World) (t : TypeId) (cs : Array Value) : Blk (w.alloc (.cells cs t)) w.heap.size t cs := by
  show (w.heap.push _)[w.heap.size]? = _
  simp
theorem Blk.new' {w : World} {g : Nat} {t : TypeId} {cs : Array Value} (h : g = w.heap.size) : Blk (w.alloc (.cells cs t)) g t cs := by subst h; exact Blk.new _ _ _
theorem Blk.set (h : Blk w g t cs) (i : Nat) (u : Value) : Blk (w.setCell ⟨g, i, none⟩ u) g t (cs.setIfInBounds i u) := by
  unfold Blk at h ⊢
  simp [World.setCell, Array.getElem?_modify, h]
theorem Blk.below {B : Nat} (h : Blk w g t cs) (hb : Below B w w') (hg : g < B) : Blk w' g t cs := (hb.block g hg).trans h
theorem Blk.later (h : Blk w g t cs) (hb : Below w.heap.size w w') : Blk w' g t cs := h.below hb h.lt
/-- A block of numbers reads as a slice. -/
theorem Blk.sl {zs rest : List Int} {m n : Nat} (h : Blk w g t ((zs ++ rest).map (Value.int .i64)).toArray) (hl : zs.length = n * m) : Sl w w.heap.size m (some ⟨g, 0, none⟩) n (zs.map (Value.int .i64)) :=
  ⟨by simpa using hl, fun _ => ⟨g, 0, rfl, h.lt, fun j u hu => by
    rw [Nat.zero_add, h.cell]
    have hj : j < zs.length := by
      rcases Nat.lt_or_ge j zs.length with h | h
      · exact h
      · rw [List.getElem?_eq_none (by simpa using h)] at hu; cases hu
    rw [← hu]
    simp [List.getElem?_append, hj]⟩⟩
end
theorem Sl.cellAt {w : World} {B n m : Nat} {A : Option Addr} {zs : List Int} (h : Sl w B m A n (zs.map (Value.int .i64))) {k : Nat} (hk : k < n) :
    ∃ b off, A = some ⟨b, off, none⟩ ∧ b < B ∧ zs.length = n * m ∧ ∀ j, j < m → w.cell? ⟨b, off + (k * m + j), none⟩ = some (.int .i64 (zs.getD (k * m + j) 0)) := by
  obtain ⟨b, off, e, hb, hc⟩ := h.2 (by omega)
  have hl := h.1
  rw [List.length_map] at hl
  refine ⟨b, off, e, hb, hl, fun j hj => hc _ _ (getD_map_int ?_)⟩
  have : k * m + m ≤ n * m := by rw [← Nat.succ_mul]; exact Nat.mul_le_mul_right _ hk
  omega
/-- The first k numbers are copied, the others are still 0. -/
def half (zs : List Int) (k : Nat) : Array Value := ((zs.take k ++ List.replicate (zs.length - k) 0).map (Value.int .i64)).toArray
theorem made_one (v : Value) (n : Nat) : madeCells #[v] n = (List.replicate n v).toArray := by
  apply Array.ext_getElem?
  intro i
  unfold madeCells
  rw [Array.getElem?_map]
  rcases Nat.lt_or_ge i n with h | h
  · simp [h, Nat.mod_one]
  · simp [h]
theorem half_zero (zs : List Int) : madeCells #[.int .i64 0] zs.length = half zs 0 := by
  rw [made_one]; simp [half]
theorem half_get (zs : List Int) (k : Nat) (h : k < zs.length) : (half zs k)[k]? = some (.int .i64 0) := by
  simp [half, List.getElem?_append, h, Nat.min_eq_left (Nat.le_of_lt h), List.getElem?_replicate]; omega
theorem half_later (zs : List Int) (k i : Nat) (hk : k ≤ i) (h : i < zs.length) : (half zs k)[i]? = some (.int .i64 0) := by
  simp [half, List.getElem?_append, Nat.min_eq_left (show k ≤ zs.length by omega), List.getElem?_replicate, show ¬ i < k by omega]; omega
theorem half_set (zs : List Int) (k : Nat) (h : k < zs.length) : (half zs k).setIfInBounds k (.int .i64 (zs.getD k 0)) = half zs (k + 1) := by
  have hg : zs.getD k 0 = zs[k] := by rw [List.getD_eq_getElem?_getD, List.getElem?_eq_getElem h]; rfl
  have e1 : List.replicate (zs.length - k) (0 : Int) = 0 :: List.replicate (zs.length - (k + 1)) 0 := by
    rw [← List.replicate_succ]; congr 1; omega
  rw [hg]
  simp only [half, List.setIfInBounds_toArray, ← List.map_set]
  rw [List.set_append_right _ _ (by simp; omega)]
  rw [List.length_take, Nat.min_eq_left (Nat.le_of_lt h), Nat.sub_self, e1, List.set_cons_zero, List.take_succ_eq_append_getElem h, List.append_assoc]
  rfl
theorem half_size (zs : List Int) (k : Nat) (h : k ≤ zs.length) : (half zs k).size = zs.length := by
  simp [half]; omega
theorem half_all (zs : List Int) : half zs zs.length = (zs.map (Value.int .i64)).toArray := by simp [half]
theorem run_makeN {P : Program} (t e : TypeId) (i : TypeInfo) (z : Value) (ht : P.underlying t = some (.slice e)) (hi : P.info? e = some i) (hz : i.zero = some z)
    (kl kc : IntKind) (n c : Nat) (hnc : n ≤ c) (hbytes : i.bytes * c ≤ 281474976710656) (h63 : c ≤ 9223372036854775807) (w : World) :
    (Instr.makeSlice t (.int kl (n : Int)) (.int kc (c : Int))).run P w = .ok (.slice (some ⟨w.heap.size, 0, none⟩) n c) (w.alloc (.cells (madeCells z.cells (c * i.size)) e)) := by
  have hb : (i.bytes : Int) * (c : Int) ≤ 281474976710656 := by
    have h : ((i.bytes * c : Nat) : Int) ≤ 281474976710656 := by omega
    rwa [Int.natCast_mul] at h
  have hr := run_make (P := P) w t e i z ht hi hz kl kc n c (by omega) (by omega) hb (by omega)
  simp only [Int.toNat_natCast] at hr
  exact hr
theorem made_many (m n : Nat) (hm : 0 < m) : madeCells (List.replicate m (Value.int .i64 0)).toArray n = (List.replicate n (Value.int .i64 0)).toArray := by
  apply Array.ext_getElem?
  intro i
  unfold madeCells
  rw [Array.getElem?_map]
  rcases Nat.lt_or_ge i n with h | h
  · simp [h, Nat.mod_lt _ hm]
  · simp [h]
def eqL (l l' : List Int) : Bool := decide (l = l')
theorem eqL_self (l : List Int) : eqL l l = true := by simp [eqL]
theorem eqL_of {l l' : List Int} (h : eqL l l' = true) : l = l' := by simpa [eqL] using h
theorem eqL_no {l l' : List Int} (h : eqL l l' = false) : l ≠ l' := by simpa [eqL] using h
/-- k0, k0 + 1, .. -/
def marks (k0 : Int) (n : Nat) : List Int := (List.range n).map fun i : Nat => k0 + (i : Int)
theorem marks_get (k0 : Int) (n i : Nat) (h : i < n) : (marks k0 n).getD i 0 = k0 + (i : Int) := by
  simp [marks, List.getD_eq_getElem?_getD, h]
/-- The slice owns the head of block g. -/
structure Own (w : World) (g : Nat) (t : TypeId) (m : Nat) (A : Option Addr) (n : Nat) (zs : List Int) : Prop where
  len : zs.length = n * m
  blk : 0 < n → A = some ⟨g, 0, none⟩ ∧ ∃ rest : List Value, Blk w g t (zs.map (Value.int .i64) ++ rest).toArray
theorem Own.rest {w : World} {g : Nat} {t : TypeId} {m : Nat} {A : Option Addr} {n : Nat} {zs : List Int} (h : Own w g t m A n zs) : ∃ rest : List Value, 0 < n → A = some ⟨g, 0, none⟩ ∧ Blk w g t (zs.map (Value.int .i64) ++ rest).toArray := by
  rcases Nat.eq_zero_or_pos n with h0 | h0
  · exact ⟨[], fun h => absurd h (by omega)⟩
  · obtain ⟨e, rest, hb⟩ := h.blk h0
    exact ⟨rest, fun _ => ⟨e, hb⟩⟩
theorem Own.sl {w : World} {g : Nat} {t : TypeId} {m : Nat} {A : Option Addr} {n : Nat} {zs : List Int} (h : Own w g t m A n zs) : Sl w w.heap.size m A n (zs.map (Value.int .i64)) :=
  ⟨by simpa using h.len, fun hn => by
    obtain ⟨e, rest, hb⟩ := h.blk hn
    refine ⟨g, 0, e, hb.lt, fun j u hu => ?_⟩
    rw [Nat.zero_add, hb.cell]
    have hj : j < zs.length := by
      rcases Nat.lt_or_ge j zs.length with h | h
      · exact h
      · rw [List.getElem?_eq_none (by simpa using h)] at hu; cases hu
    rw [← hu]
    simp [List.getElem?_append, hj]⟩
theorem Own.keep {w w' : World} {g : Nat} {t : TypeId} {m : Nat} {A : Option Addr} {n : Nat} {zs : List Int} (h : Own w g t m A n zs) (hk : w'.heap[g]? = w.heap[g]?) : Own w' g t m A n zs :=
  ⟨h.len, fun hn => by
    obtain ⟨e, rest, hb⟩ := h.blk hn
    exact ⟨e, rest, hk.trans hb⟩⟩
theorem Own.below {w w' : World} {B g : Nat} {t : TypeId} {m : Nat} {A : Option Addr} {n : Nat} {zs : List Int} (h : Own w g t m A n zs) (hb : Below B w w') (hg : g < B) : Own w' g t m A n zs := h.keep (hb.block g hg)
theorem Own.later {w w' : World} {g : Nat} {t : TypeId} {m : Nat} {A : Option Addr} {n : Nat} {zs : List Int} (h : Own w g t m A n zs) (hb : Below w.heap.size w w') : Own w' g t m A n zs :=
  ⟨h.len, fun hn => by
    obtain ⟨e, rest, hk⟩ := h.blk hn
    exact ⟨e, rest, hk.later hb⟩⟩
/-- The cells of a block whose first i numbers are marked. -/
def markA (zs : List Int) (rest : List Value) (k0 : Int) (i : Nat) : Array Value := ((marks k0 i ++ zs.drop i).map (Value.int .i64) ++ rest).toArray
def MarkRel (w : World) (g : Nat) (t : TypeId) (A : Option Addr) (n : Nat) (zs : List Int) (rest : List Value) (k0 : Int) (i : Nat) : Prop :=
  0 < n → A = some ⟨g, 0, none⟩ ∧ Blk w g t (markA zs rest k0 i)
theorem markA_zero (zs : List Int) (rest : List Value) (k0 : Int) : markA zs rest k0 0 = (zs.map (Value.int .i64) ++ rest).toArray := by simp [markA, marks]
theorem markA_all (zs : List Int) (rest : List Value) (k0 : Int) : markA zs rest k0 zs.length = ((marks k0 zs.length).map (Value.int .i64) ++ rest).toArray := by simp [markA]
theorem marks_len (k0 : Int) (n : Nat) : (marks k0 n).length = n := by simp [marks]
theorem markA_get (zs : List Int) (rest : List Value) (k0 : Int) (i j : Nat) (hi : i ≤ j) (h : j < zs.length) : (markA zs rest k0 i)[j]? = some (.int .i64 (zs.getD j 0)) := by
  simp only [markA, List.getElem?_toArray]
  rw [List.getElem?_append_left (by simp [marks_len]; omega), List.getElem?_map, List.getElem?_append_right (by simp [marks_len]; omega), marks_len, List.getElem?_drop]
  rw [show i + (j - i) = j from by omega, List.getElem?_eq_getElem h, List.getD_eq_getElem?_getD, List.getElem?_eq_getElem h]
  rfl
theorem marks_succ (k0 : Int) (i : Nat) : marks k0 (i + 1) = marks k0 i ++ [k0 + (i : Int)] := by
  simp [marks, List.range_succ]
theorem markA_set (zs : List Int) (rest : List Value) (k0 : Int) (i : Nat) (h : i < zs.length) : (markA zs rest k0 i).setIfInBounds i (.int .i64 (k0 + (i : Int))) = markA zs rest k0 (i + 1) := by
  simp only [markA, List.setIfInBounds_toArray]
  rw [List.set_append_left _ _ (by simp [marks_len]; omega), ← List.map_set, List.set_append_right _ _ (by simp [marks_len]), marks_len, Nat.sub_self,
    List.drop_eq_getElem_cons h, List.set_cons_zero, marks_succ, List.append_assoc]
  rfl
theorem only_setCell {a w : World} {g : Nat} {p : Addr} (h : a.grownBy w (some g)) (hp : p.block = g ∨ a.heap.size ≤ p.block) (u : Value) : a.grownBy (w.setCell p u) (some g) :=
  ⟨h.os, h.tape, h.output, by simpa [World.setCell] using h.size, fun i hi hne => (Below.heap_setCell w p u i (by
    rintro rfl
    rcases hp with hp | hp
    · exact hne (by rw [hp])
    · omega)).trans (h.block i hi hne)⟩
theorem MarkRel.own {w : World} {g : Nat} {t : TypeId} {A : Option Addr} {n m : Nat} {zs : List Int} {rest : List Value} {k0 : Int} (h : MarkRel w g t A n zs rest k0 (n * m)) (hl : zs.length = n * m) : Own w g t m A n (marks k0 (n * m)) :=
  ⟨marks_len _ _, fun hn => by
    obtain ⟨e, hb⟩ := h hn
    have := markA_all zs rest k0
    rw [hl] at this
    rw [this] at hb
    exact ⟨e, rest, hb⟩⟩
/-- Behind a change of block g alone, and of new blocks. -/
theorem grown_below {a w w' : World} {g B : Nat} (h : Below B a w) (hg : w.grownBy w' (some g)) (h1 : B ≤ g) (h2 : B ≤ w.heap.size) : Below B a w' :=
  h.grown hg h2 (fun k hk => by injection hk with hk; omega)
theorem Own.lt {w : World} {g : Nat} {t : TypeId} {m : Nat} {A : Option Addr} {n : Nat} {zs : List Int} (h : Own w g t m A n zs) (hn : 0 < n) : g < w.heap.size := by
  obtain ⟨_, _, hk⟩ := h.blk hn
  exact hk.lt
/-- Behind a change of another block. -/
theorem Own.apart {w w' : World} {g g' : Nat} {t : TypeId} {m : Nat} {A : Option Addr} {n : Nat} {zs : List Int} (h : Own w g t m A n zs) (hg : w.grownBy w' (some g')) (hne : 0 < n → g ≠ g') : Own w' g t m A n zs :=
  ⟨h.len, fun hn => by
    obtain ⟨e, rest, hb⟩ := h.blk hn
    exact ⟨e, rest, (hg.block g hb.lt (by simpa using hne hn)).trans hb⟩⟩
theorem Sl.of_below {w w' : World} {size n : Nat} {A : Option Addr} {xs : List Value} (h : Sl w w.heap.size size A n xs) (hb : Below w.heap.size w w') : Sl w' w'.heap.size size A n xs := h.later hb
theorem Own.other {w w' : World} {g g' : Nat} {t : TypeId} {m : Nat} {A : Option Addr} {n : Nat} {zs : List Int} (h : Own w g t m A n zs) (hg : w.grownBy w' (some g')) (hne : g ≠ g') : Own w' g t m A n zs :=
  ⟨h.len, fun hn => by
    obtain ⟨e, rest, hb⟩ := h.blk hn
    exact ⟨e, rest, (hg.block g hb.lt (by simpa using hne)).trans hb⟩⟩
end Go.Proofs.Yteeplmnjipddaaa
