/- The reference's source of choices: numbers in range, the source as it lies. Conditions: bounds. -/
import Derived.Test.YtcfbihponecblaaG00
import Derived.Laws.MakeOwn
import Derived.OneCell
import Derived.StillTailTactics
import Derived.Deep.RegionWith
import Derived.Maps.AppendAt
import Derived.Deep.AppendLies
import Derived.RegionTactic
import Derived.OwnWalk
import Derived.Laws.OwnMore
import Derived.Laws.Bits64b
/- Blocks that are known whole; slices of structs of numbers as flat lists. No conditions. -/
namespace Go.Proofs.Ytcfbihponecblaa
set_option linter.unusedSimpArgs false
set_option linter.unusedVariables false
open Go.RowKit

/-- Block g is just the cells cs. -/
def Blk (w : World) (g : Nat) (t : TypeId) (cs : Array Value) : Prop := w.heap[g]? = some (.cells cs t (0, 0))
section
variable {w w' : World} {g : Nat} {t : TypeId} {cs : Array Value}
theorem Blk.lt (h : Blk w g t cs) : g < w.heap.size := by
  rcases Nat.lt_or_ge g w.heap.size with hlt | hge
  · exact hlt
  · unfold Blk at h; rw [Array.getElem?_eq_none hge] at h; cases h
theorem Blk.cell (h : Blk w g t cs) (i : Nat) : w.cell? ⟨g, i, none⟩ = cs[i]? := by
  unfold Blk at h
  simp [World.cell?, h]
theorem Blk.free (h : Blk w g t cs) (i : Nat) : w.frozen? ⟨g, i, none⟩ = false := by
  unfold Blk at h
  simp [World.frozen?, h]
theorem Blk.new (w : World) (t : TypeId) (cs : Array Value) : Blk (w.alloc (.cells cs t)) w.heap.size t cs := by
  show (w.heap.push _)[w.heap.size]? = _
  simp
theorem Blk.new' {w : World} {g : Nat} {t : TypeId} {cs : Array Value} (h : g = w.heap.size) : Blk (w.alloc (.cells cs t)) g t cs := by subst h; exact Blk.new _ _ _
theorem Blk.set (h : Blk w g t cs) (i : Nat) (u : Value) : Blk (w.setCell ⟨g, i, none⟩ u) g t (cs.setIfInBounds i u) := by
  unfold Blk at h ⊢
  simp [World.setCell, Array.getElem?_modify, h]
theorem Blk.below {B : Nat} (h : Blk w g t cs) (hb : Below B w w') (hg : g < B) : Blk w' g t cs := (hb.block g hg).trans h
theorem Blk.later (h : Blk w g t cs) (hb : Below w.heap.size w w') : Blk w' g t cs := h.below hb h.lt
/-- A block of numbers reads as a slice. -/
theorem Blk.sl {zs rest : List Int} {m n : Nat} (h : Blk w g t ((zs ++ rest).map (Value.int .i64)).toArray) (hl : zs.length = n * m) : Sl w w.heap.size m (some ⟨g, 0, none⟩) n (zs.map (Value.int .i64)) :=
  ⟨by simpa using hl, fun _ => ⟨g, 0, rfl, h.lt, fun j u hu => by
    rw [Nat.zero_add, h.cell]
    have hj : j < zs.length := by
      rcases Nat.lt_or_ge j zs.length with h | h
      · exact h
      · rw [List.getElem?_eq_none (by simpa using h)] at hu; cases hu
    rw [← hu]
    simp [List.getElem?_append, hj]⟩⟩
end
theorem Sl.cellAt {w : World} {B n m : Nat} {A : Option Addr} {zs : List Int} (h : Sl w B m A n (zs.map (Value.int .i64))) {k : Nat} (hk : k < n) :
    ∃ b off, A = some ⟨b, off, none⟩ ∧ b < B ∧ zs.length = n * m ∧ ∀ j, j < m → w.cell? ⟨b, off + (k * m + j), none⟩ = some (.int .i64 (zs.getD (k * m + j) 0)) := by
  obtain ⟨b, off, e, hb, hc⟩ := h.2 (by omega)
  have hl := h.1
  rw [List.length_map] at hl
  refine ⟨b, off, e, hb, hl, fun j hj => hc _ _ (getD_map_int ?_)⟩
  have : k * m + m ≤ n * m := by rw [← Nat.succ_mul]; exact Nat.mul_le_mul_right _ hk
  omega
/-- The first k numbers are copied, the others are still 0. -/
def half (zs : List Int) (k : Nat) : Array Value := ((zs.take k ++ List.replicate (zs.length - k) 0).map (Value.int .i64)).toArray
theorem made_one (v : Value) (n : Nat) : madeCells #[v] n = (List.replicate n v).toArray := by
  apply Array.ext_getElem?
  intro i
  unfold madeCells
  rw [Array.getElem?_map]
  rcases Nat.lt_or_ge i n with h | h
  · simp [h, Nat.mod_one]
  · simp [h]
theorem half_zero (zs : List Int) : madeCells #[.int .i64 0] zs.length = half zs 0 := by
  rw [made_one]; simp [half]
theorem half_get (zs : List Int) (k : Nat) (h : k < zs.length) : (half zs k)[k]? = some (.int .i64 0) := by
  simp [half, List.getElem?_append, h, Nat.min_eq_left (Nat.le_of_lt h), List.getElem?_replicate]; omega
theorem half_later (zs : List Int) (k i : Nat) (hk : k ≤ i) (h : i < zs.length) : (half zs k)[i]? = some (.int .i64 0) := by
  simp [half, List.getElem?_append, Nat.min_eq_left (show k ≤ zs.length by omega), List.getElem?_replicate, show ¬ i < k by omega]; omega
theorem half_set (zs : List Int) (k : Nat) (h : k < zs.length) : (half zs k).setIfInBounds k (.int .i64 (zs.getD k 0)) = half zs (k + 1) := by
  have hg : zs.getD k 0 = zs[k] := by rw [List.getD_eq_getElem?_getD, List.getElem?_eq_getElem h]; rfl
  have e1 : List.replicate (zs.length - k) (0 : Int) = 0 :: List.replicate (zs.length - (k + 1)) 0 := by
    rw [← List.replicate_succ]; congr 1; omega
  rw [hg]
  simp only [half, List.setIfInBounds_toArray, ← List.map_set]
  rw [List.set_append_right _ _ (by simp; omega)]
  rw [List.length_take, Nat.min_eq_left (Nat.le_of_lt h), Nat.sub_self, e1, List.set_cons_zero, List.take_succ_eq_append_getElem h, List.append_assoc]
  rfl
theorem half_size (zs : List Int) (k : Nat) (h : k ≤ zs.length) : (half zs k).size = zs.length := by
  simp [half]; omega
theorem half_all (zs : List Int) : half zs zs.length = (zs.map (Value.int .i64)).toArray := by simp [half]
theorem run_makeN {P : Program} (t e : TypeId) (i : TypeInfo) (z : Value) (ht : P.underlying t = some (.slice e)) (hi : P.info? e = some i) (hz : i.zero = some z)
    (kl kc : IntKind) (n c : Nat) (hnc : n ≤ c) (hbytes : i.bytes * c ≤ 281474976710656) (h63 : c ≤ 9223372036854775807) (w : World) :
    (Instr.makeSlice t (.int kl (n : Int)) (.int kc (c : Int))).run P w = .ok (.slice (some ⟨w.heap.size, 0, none⟩) n c) (w.alloc (.cells (madeCells z.cells (c * i.size)) e)) := by
  have hb : (i.bytes : Int) * (c : Int) ≤ 281474976710656 := by
    have h : ((i.bytes * c : Nat) : Int) ≤ 281474976710656 := by omega
    rwa [Int.natCast_mul] at h
  have hr := run_make (P := P) w t e i z ht hi hz kl kc n c (by omega) (by omega) hb (by omega)
  simp only [Int.toNat_natCast] at hr
  exact hr
theorem made_many (m n : Nat) (hm : 0 < m) : madeCells (List.replicate m (Value.int .i64 0)).toArray n = (List.replicate n (Value.int .i64 0)).toArray := by
  apply Array.ext_getElem?
  intro i
  unfold madeCells
  rw [Array.getElem?_map]
  rcases Nat.lt_or_ge i n with h | h
  · simp [h, Nat.mod_lt _ hm]
  · simp [h]
def eqL (l l' : List Int) : Bool := decide (l = l')
theorem eqL_self (l : List Int) : eqL l l = true := by simp [eqL]
theorem eqL_of {l l' : List Int} (h : eqL l l' = true) : l = l' := by simpa [eqL] using h
theorem eqL_no {l l' : List Int} (h : eqL l l' = false) : l ≠ l' := by simpa [eqL] using h
/-- k0, k0 + 1, .. -/
def marks (k0 : Int) (n : Nat) : List Int := (List.range n).map fun i : Nat => k0 + (i : Int)
theorem marks_get (k0 : Int) (n i : Nat) (h : i < n) : (marks k0 n).getD i 0 = k0 + (i : Int) := by
  simp [marks, List.getD_eq_getElem?_getD, h]
/-- The slice owns the head of block g. -/
structure Own (w : World) (g : Nat) (t : TypeId) (m : Nat) (A : Option Addr) (n : Nat) (zs : List Int) : Prop where
  len : zs.length = n * m
  blk : 0 < n → A = some ⟨g, 0, none⟩ ∧ ∃ rest : List Value, Blk w g t (zs.map (Value.int .i64) ++ rest).toArray
theorem Own.rest {w : World} {g : Nat} {t : TypeId} {m : Nat} {A : Option Addr} {n : Nat} {zs : List Int} (h : Own w g t m A n zs) : ∃ rest : List Value, 0 < n → A = some ⟨g, 0, none⟩ ∧ Blk w g t (zs.map (Value.int .i64) ++ rest).toArray := by
  rcases Nat.eq_zero_or_pos n with h0 | h0
  · exact ⟨[], fun h => absurd h (by omega)⟩
  · obtain ⟨e, rest, hb⟩ := h.blk h0
    exact ⟨rest, fun _ => ⟨e, hb⟩⟩
theorem Own.sl {w : World} {g : Nat} {t : TypeId} {m : Nat} {A : Option Addr} {n : Nat} {zs : List Int} (h : Own w g t m A n zs) : Sl w w.heap.size m A n (zs.map (Value.int .i64)) :=
  ⟨by simpa using h.len, fun hn => by
    obtain ⟨e, rest, hb⟩ := h.blk hn
    refine ⟨g, 0, e, hb.lt, fun j u hu => ?_⟩
    rw [Nat.zero_add, hb.cell]
    have hj : j < zs.length := by
      rcases Nat.lt_or_ge j zs.length with h | h
      · exact h
      · rw [List.getElem?_eq_none (by simpa using h)] at hu; cases hu
    rw [← hu]
    simp [List.getElem?_append, hj]⟩
theorem Own.keep {w w' : World} {g : Nat} {t : TypeId} {m : Nat} {A : Option Addr} {n : Nat} {zs : List Int} (h : Own w g t m A n zs) (hk : w'.heap[g]? = w.heap[g]?) : Own w' g t m A n zs :=
  ⟨h.len, fun hn => by
    obtain ⟨e, rest, hb⟩ := h.blk hn
    exact ⟨e, rest, hk.trans hb⟩⟩
theorem Own.below {w w' : World} {B g : Nat} {t : TypeId} {m : Nat} {A : Option Addr} {n : Nat} {zs : List Int} (h : Own w g t m A n zs) (hb : Below B w w') (hg : g < B) : Own w' g t m A n zs := h.keep (hb.block g hg)
theorem Own.later {w w' : World} {g : Nat} {t : TypeId} {m : Nat} {A : Option Addr} {n : Nat} {zs : List Int} (h : Own w g t m A n zs) (hb : Below w.heap.size w w') : Own w' g t m A n zs :=
  ⟨h.len, fun hn => by
    obtain ⟨e, rest, hk⟩ := h.blk hn
    exact ⟨e, rest, hk.later hb⟩⟩
/-- The cells of a block whose first i numbers are marked. -/
def markA (zs : List Int) (rest : List Value) (k0 : Int) (i : Nat) : Array Value := ((marks k0 i ++ zs.drop i).map (Value.int .i64) ++ rest).toArray
def MarkRel (w : World) (g : Nat) (t : TypeId) (A : Option Addr) (n : Nat) (zs : List Int) (rest : List Value) (k0 : Int) (i : Nat) : Prop :=
  0 < n → A = some ⟨g, 0, none⟩ ∧ Blk w g t (markA zs rest k0 i)
theorem markA_zero (zs : List Int) (rest : List Value) (k0 : Int) : markA zs rest k0 0 = (zs.map (Value.int .i64) ++ rest).toArray := by simp [markA, marks]
theorem markA_all (zs : List Int) (rest : List Value) (k0 : Int) : markA zs rest k0 zs.length = ((marks k0 zs.length).map (Value.int .i64) ++ rest).toArray := by simp [markA]
theorem marks_len (k0 : Int) (n : Nat) : (marks k0 n).length = n := by simp [marks]
theorem markA_get (zs : List Int) (rest : List Value) (k0 : Int) (i j : Nat) (hi : i ≤ j) (h : j < zs.length) : (markA zs rest k0 i)[j]? = some (.int .i64 (zs.getD j 0)) := by
  simp only [markA, List.getElem?_toArray]
  rw [List.getElem?_append_left (by simp [marks_len]; omega), List.getElem?_map, List.getElem?_append_right (by simp [marks_len]; omega), marks_len, List.getElem?_drop]
  rw [show i + (j - i) = j from by omega, List.getElem?_eq_getElem h, List.getD_eq_getElem?_getD, List.getElem?_eq_getElem h]
  rfl
theorem marks_succ (k0 : Int) (i : Nat) : marks k0 (i + 1) = marks k0 i ++ [k0 + (i : Int)] := by
  simp [marks, List.range_succ]
theorem markA_set (zs : List Int) (rest : List Value) (k0 : Int) (i : Nat) (h : i < zs.length) : (markA zs rest k0 i).setIfInBounds i (.int .i64 (k0 + (i : Int))) = markA zs rest k0 (i + 1) := by
  simp only [markA, List.setIfInBounds_toArray]
  rw [List.set_append_left _ _ (by simp [marks_len]; omega), ← List.map_set, List.set_append_right _ _ (by simp [marks_len]), marks_len, Nat.sub_self,
    List.drop_eq_getElem_cons h, List.set_cons_zero, marks_succ, List.append_assoc]
  rfl
theorem only_setCell {a w : World} {g : Nat} {p : Addr} (h : a.grownBy w (some g)) (hp : p.block = g ∨ a.heap.size ≤ p.block) (u : Value) : a.grownBy (w.setCell p u) (some g) :=
  ⟨h.os, h.tape, h.output, by simpa [World.setCell] using h.size, fun i hi hne => (Below.heap_setCell w p u i (by
    rintro rfl
    rcases hp with hp | hp
    · exact hne (by rw [hp])
    · omega)).trans (h.block i hi hne)⟩
theorem MarkRel.own {w : World} {g : Nat} {t : TypeId} {A : Option Addr} {n m : Nat} {zs : List Int} {rest : List Value} {k0 : Int} (h : MarkRel w g t A n zs rest k0 (n * m)) (hl : zs.length = n * m) : Own w g t m A n (marks k0 (n * m)) :=
  ⟨marks_len _ _, fun hn => by
    obtain ⟨e, hb⟩ := h hn
    have := markA_all zs rest k0
    rw [hl] at this
    rw [this] at hb
    exact ⟨e, rest, hb⟩⟩
/-- Behind a change of block g alone, and of new blocks. -/
theorem grown_below {a w w' : World} {g B : Nat} (h : Below B a w) (hg : w.grownBy w' (some g)) (h1 : B ≤ g) (h2 : B ≤ w.heap.size) : Below B a w' :=
  h.grown hg h2 (fun k hk => by injection hk with hk; omega)
theorem Own.lt {w : World} {g : Nat} {t : TypeId} {m : Nat} {A : Option Addr} {n : Nat} {zs : List Int} (h : Own w g t m A n zs) (hn : 0 < n) : g < w.heap.size := by
  obtain ⟨_, _, hk⟩ := h.blk hn
  exact hk.lt
/-- Behind a change of another block. -/
theorem Own.apart {w w' : World} {g g' : Nat} {t : TypeId} {m : Nat} {A : Option Addr} {n : Nat} {zs : List Int} (h : Own w g t m A n zs) (hg : w.grownBy w' (some g')) (hne : 0 < n → g ≠ g') : Own w' g t m A n zs :=
  ⟨h.len, fun hn => by
    obtain ⟨e, rest, hb⟩ := h.blk hn
    exact ⟨e, rest, (hg.block g hb.lt (by simpa using hne hn)).trans hb⟩⟩
theorem Sl.of_below {w w' : World} {size n : Nat} {A : Option Addr} {xs : List Value} (h : Sl w w.heap.size size A n xs) (hb : Below w.heap.size w w') : Sl w' w'.heap.size size A n xs := h.later hb
theorem Own.other {w w' : World} {g g' : Nat} {t : TypeId} {m : Nat} {A : Option Addr} {n : Nat} {zs : List Int} (h : Own w g t m A n zs) (hg : w.grownBy w' (some g')) (hne : g ≠ g') : Own w' g t m A n zs :=
  ⟨h.len, fun hn => by
    obtain ⟨e, rest, hb⟩ := h.blk hn
    exact ⟨e, rest, (hg.block g hb.lt (by simpa using hne)).trans hb⟩⟩
end Go.Proofs.Ytcfbihponecblaa
/- Slices of structs of mixed one-cell fields as flat lists of cells. No conditions. -/
namespace Go.Proofs.Ytcfbihponecblaa
set_option linter.unusedSimpArgs false
set_option linter.unusedVariables false
open Go.RowKit Go.WideShapes Go.ChangeShapes Go.Deep

/-- The first k cells are copied, the others are still the first ones. -/
def halfV (ds vs : List Value) (k : Nat) : Array Value := (vs.take k ++ ds.drop k).toArray
theorem halfV_zero (ds vs : List Value) : halfV ds vs 0 = ds.toArray := by simp [halfV]
theorem halfV_all {ds vs : List Value} (h : ds.length = vs.length) : halfV ds vs vs.length = vs.toArray := by rw [halfV, List.take_length, ← h, List.drop_length, List.append_nil]
theorem halfV_get {ds vs : List Value} {k i : Nat} (hl : ds.length = vs.length) (hk : k ≤ i) (h : i < vs.length) : (halfV ds vs k)[i]? = ds[i]? := by
  simp only [halfV, List.getElem?_toArray]
  rw [List.getElem?_append_right (by simp; omega), List.getElem?_drop]
  congr 1
  simp
  omega
theorem halfV_set {ds vs : List Value} {k : Nat} {v : Value} (hl : ds.length = vs.length) (hv : vs[k]? = some v) : (halfV ds vs k).setIfInBounds k v = halfV ds vs (k + 1) := by
  have hk : k < vs.length := by
    rcases Nat.lt_or_ge k vs.length with h | h
    · exact h
    · rw [List.getElem?_eq_none h] at hv; cases hv
  have e : vs[k] = v := by rw [List.getElem?_eq_getElem hk] at hv; exact Option.some.inj hv
  simp only [halfV, List.setIfInBounds_toArray]
  rw [List.set_append_right _ _ (by simp; omega), List.length_take, Nat.min_eq_left (Nat.le_of_lt hk), Nat.sub_self, List.drop_eq_getElem_cons (by omega), List.set_cons_zero,
    List.take_succ_eq_append_getElem hk, List.append_assoc, e]
  rfl
/-- The number, the truth in a cell of a list. -/
def intAt (vs : List Value) (i : Nat) : Int := match vs[i]? with
  | some (.int _ a) => a
  | _ => 0
def boolAt (vs : List Value) (i : Nat) : Bool := match vs[i]? with
  | some (.bool a) => a
  | _ => false
theorem intAt_eq {vs : List Value} {i : Nat} {a : Int} {k : IntKind} (h : vs[i]? = some (.int k a)) : intAt vs i = a := by rw [intAt, h]
theorem boolAt_eq {vs : List Value} {i : Nat} {a : Bool} (h : vs[i]? = some (.bool a)) : boolAt vs i = a := by rw [boolAt, h]
theorem Sl.cellV {w : World} {B n m : Nat} {A : Option Addr} {vs : List Value} (h : Sl w B m A n vs) {k : Nat} (hk : k < n) :
    ∃ b off, A = some ⟨b, off, none⟩ ∧ b < B ∧ vs.length = n * m ∧ ∀ j v, j < m → vs[k * m + j]? = some v → w.cell? ⟨b, off + (k * m + j), none⟩ = some v := by
  obtain ⟨b, off, e, hb, hc⟩ := h.2 (by omega)
  exact ⟨b, off, e, hb, h.1, fun j v _ hv => hc _ _ hv⟩
theorem Blk.slV {w : World} {g : Nat} {t : TypeId} {vs : List Value} {m n : Nat} (h : Blk w g t vs.toArray) (hl : vs.length = n * m) : Sl w w.heap.size m (some ⟨g, 0, none⟩) n vs :=
  ⟨hl, fun _ => ⟨g, 0, rfl, h.lt, fun j u hu => by rw [Nat.zero_add, h.cell]; simpa using hu⟩⟩
section
variable {H : Type} {enc : TypeId × Value → H} {P : Program} {w : World} {spare : Nat → Bool} {held : Bool}
/-- A cell of a slice of structs of one-cell fields. -/
theorem row_cell {e : TypeId} {n size : Nat} {fs : Array Field} {xs : List Value} (he : P.underlying e = some (.struct fs)) (hone : oneCellFields P fs = true) (hsz : fs.size = size) (hl : xs.length = n * size)
    (h : ∀ i, i < n → ∃ (f : Nat) (y : DataW H × List MemPlace), DataW.trod enc P w 0 spare held f e ((xs.drop (i * size)).take size) = some y)
    {i j : Nat} {f : Field} (hi : i < n) (hj : fs[j]? = some f) : ∃ (c : Value) (fu : Nat) (y : DataW H × List MemPlace), xs[i * size + j]? = some c ∧ DataW.trod enc P w 0 spare held fu f.type [c] = some y := by
  subst hsz
  have hjs : j < fs.size := (Array.getElem?_eq_some_iff.1 hj).1
  obtain ⟨fu, y, hy⟩ := h i hi
  obtain ⟨ys, n', _, _, hlen, hyl, hf⟩ := DataW.trod_struct he hy
  obtain ⟨ho, hk⟩ := hone_of hone _ _ hj
  have h1 := hf _ _ hj
  rw [ho, hk] at h1
  have hq : i * fs.size + j < xs.length := by
    rw [hl]
    have : i * fs.size + fs.size ≤ n * fs.size := by rw [← Nat.succ_mul]; exact Nat.mul_le_mul_right _ hi
    omega
  have e1 : (((xs.drop (i * fs.size)).take fs.size).drop j).take 1 = [xs[i * fs.size + j]] := by
    apply List.ext_getElem?
    intro q
    rcases q with _ | q
    · rw [List.getElem?_take, if_pos (by omega), List.getElem?_drop, List.getElem?_take, if_pos (by omega), List.getElem?_drop, Nat.add_zero, List.getElem?_eq_getElem hq]
      rfl
    · rw [List.getElem?_take, if_neg (by omega)]; rfl
  rw [e1] at h1
  have hys : ys[j]? = some (ys[j]'(by omega)) := List.getElem?_eq_getElem (by omega)
  exact ⟨_, n', _, List.getElem?_eq_getElem hq, h1.trans hys⟩
end
end Go.Proofs.Ytcfbihponecblaa
/- Lists of the call's own as cells, and appends onto them from any slice. No conditions. -/
namespace Go.Proofs.Ytcfbihponecblaa
set_option linter.unusedSimpArgs false
set_option linter.unusedVariables false
open Go.RowKit Go.WideShapes

/-- The slice owns the head of block g, which holds the cells vs there. -/
structure OwnV (w : World) (g : Nat) (t : TypeId) (m : Nat) (A : Option Addr) (n : Nat) (vs : List Value) : Prop where
  len : vs.length = n * m
  blk : 0 < n → A = some ⟨g, 0, none⟩ ∧ ∃ rest : List Value, Blk w g t (vs ++ rest).toArray
section
variable {w w' : World} {g : Nat} {t : TypeId} {m : Nat} {A : Option Addr} {n : Nat} {vs : List Value}
theorem OwnV.rest (h : OwnV w g t m A n vs) : ∃ rest : List Value, 0 < n → A = some ⟨g, 0, none⟩ ∧ Blk w g t (vs ++ rest).toArray := by
  rcases Nat.eq_zero_or_pos n with h0 | h0
  · exact ⟨[], fun h => absurd h (by omega)⟩
  · obtain ⟨e, rest, hb⟩ := h.blk h0
    exact ⟨rest, fun _ => ⟨e, hb⟩⟩
theorem OwnV.sl (h : OwnV w g t m A n vs) : Sl w w.heap.size m A n vs :=
  ⟨h.len, fun hn => by
    obtain ⟨e, rest, hb⟩ := h.blk hn
    refine ⟨g, 0, e, hb.lt, fun j u hu => ?_⟩
    rw [Nat.zero_add, hb.cell]
    have hj : j < vs.length := by
      rcases Nat.lt_or_ge j vs.length with h | h
      · exact h
      · rw [List.getElem?_eq_none h] at hu; cases hu
    rw [← hu]
    simp [List.getElem?_append, hj]⟩
theorem OwnV.later (h : OwnV w g t m A n vs) (hb : Below w.heap.size w w') : OwnV w' g t m A n vs :=
  ⟨h.len, fun hn => by
    obtain ⟨e, rest, hk⟩ := h.blk hn
    exact ⟨e, rest, hk.later hb⟩⟩
theorem OwnV.below {B : Nat} (h : OwnV w g t m A n vs) (hb : Below B w w') (hg : g < B) : OwnV w' g t m A n vs :=
  ⟨h.len, fun hn => by
    obtain ⟨e, rest, hk⟩ := h.blk hn
    exact ⟨e, rest, hk.below hb hg⟩⟩
theorem OwnV.apart {g' : Nat} (h : OwnV w g t m A n vs) (hg : w.grownBy w' (some g')) (hne : 0 < n → g ≠ g') : OwnV w' g t m A n vs :=
  ⟨h.len, fun hn => by
    obtain ⟨e, rest, hb⟩ := h.blk hn
    exact ⟨e, rest, (hg.block g hb.lt (by simpa using hne hn)).trans hb⟩⟩
theorem OwnV.lt (h : OwnV w g t m A n vs) (hn : 0 < n) : g < w.heap.size := by
  obtain ⟨_, _, hk⟩ := h.blk hn
  exact hk.lt
theorem OwnV.of_blk (h : Blk w g t vs.toArray) (hl : vs.length = n * m) : OwnV w g t m (some ⟨g, 0, none⟩) n vs := ⟨hl, fun _ => ⟨rfl, [], by simpa using h⟩⟩
theorem OwnV.none (w : World) (g : Nat) (t : TypeId) (m : Nat) (A : Option Addr) : OwnV w g t m A 0 [] := ⟨by simp, fun h => absurd h (by omega)⟩
theorem OwnV.own {zs : List Int} (h : OwnV w g t m A n (zs.map (Value.int .i64))) : Own w g t m A n zs := ⟨by simpa using h.len, h.blk⟩
theorem Own.ownV {zs : List Int} (h : Own w g t m A n zs) : OwnV w g t m A n (zs.map (Value.int .i64)) := ⟨by simpa using h.len, h.blk⟩
end
section
variable {w w' : World} {base : Nat} {e : TypeId} {size n : Nat} {v : Value} {xs : List Value}
theorem own_of_row (h : w.ownsRow base e size v n xs) : ∃ A g cap, v = .slice A n cap ∧ base ≤ g ∧ n ≤ cap ∧ cap ≤ maxLen ∧ OwnV w g e size A n xs := by
  rcases h.2 with ⟨rfl, rfl⟩ | ⟨g, cap, cur, rfl, hb, hg, hnc, hcm, hcs, ht⟩
  · exact ⟨none, base, 0, rfl, Nat.le_refl _, Nat.le_refl _, Nat.zero_le _, h.1, fun h => absurd h (by omega)⟩
  · refine ⟨_, g, cap, rfl, hb, hnc, hcm, h.1, fun _ => ⟨rfl, cur.toList.drop (n * size), ?_⟩⟩
    rw [← ht, List.take_append_drop]
    exact hg
theorem row_below (h : w.ownsRow base e size v n xs) (hb : Below w.heap.size w w') : w'.ownsRow base e size v n xs := by
  refine ⟨h.1, ?_⟩
  rcases h.2 with hn | ⟨g, cap, cur, rfl, hbb, hg, rest⟩
  · exact .inl hn
  · exact .inr ⟨g, cap, cur, rfl, hbb, (hb.block g (Array.getElem?_eq_some_iff.1 hg).1).trans hg, rest⟩
theorem row_set (h : w.ownsRow base e size v n xs) {p : Addr} (hne : ∀ k, v.ownBlock = some k → p.block ≠ k) (u : Value) : (w.setCell p u).ownsRow base e size v n xs := by
  refine ⟨h.1, ?_⟩
  rcases h.2 with hn | ⟨g, cap, cur, rfl, hbb, hg, rest⟩
  · exact .inl hn
  · exact .inr ⟨g, cap, cur, rfl, hbb, (Below.heap_setCell w p u g (fun e => hne g rfl e.symm)).trans hg, rest⟩
theorem row_sl {A : Option Addr} {c : Nat} (h : w.ownsRow base e size (.slice A n c) n xs) : Sl w w.heap.size size A n xs := by
  obtain ⟨A', g, cap, hv, _, _, _, ho⟩ := own_of_row h
  injection hv with h1
  subst h1
  exact ho.sl
/-- Behind an append. -/
theorem below_app {B : Nat} {a : World} (h : Below B a w) (ho : w.ownsRow base e size v n xs) (hg : w.grownBy w' v.ownBlock) (hbb : B ≤ base) (hB : B ≤ w.heap.size) : Below B a w' :=
  h.grown hg hB (fun k hk => Nat.le_trans hbb (ho.lt k hk).1)
end
theorem Sl.built {w : World} {cs : Array Value} {t : TypeId} {size n g B : Nat} (hg : g = w.heap.size) (hB : g < B) (h : cs.size = n * size) : Sl (w.alloc (.cells cs t)) B size (some ⟨g, 0, none⟩) n cs.toList := by
  subst hg
  exact ⟨by simpa using h, fun _ => ⟨_, 0, rfl, hB, fun j u hu => by
    rw [Nat.zero_add, (Blk.new w t cs).cell]
    simpa using hu⟩⟩
/-- The cells of a block whose first i cells are marked by mk. -/
def markV (mk : Nat → Value) (vs rest : List Value) (i : Nat) : Array Value := ((List.range i).map mk ++ vs.drop i ++ rest).toArray
def MarkRelV (w : World) (g : Nat) (t : TypeId) (A : Option Addr) (n : Nat) (vs rest : List Value) (mk : Nat → Value) (i : Nat) : Prop :=
  0 < n → A = some ⟨g, 0, none⟩ ∧ Blk w g t (markV mk vs rest i)
theorem markV_zero (mk : Nat → Value) (vs rest : List Value) : markV mk vs rest 0 = (vs ++ rest).toArray := by simp [markV]
theorem markV_all (mk : Nat → Value) (vs rest : List Value) : markV mk vs rest vs.length = ((List.range vs.length).map mk ++ rest).toArray := by simp [markV]
theorem markV_get (mk : Nat → Value) (vs rest : List Value) (i j : Nat) (hi : i ≤ j) (h : j < vs.length) : (markV mk vs rest i)[j]? = vs[j]? := by
  simp only [markV, List.getElem?_toArray]
  rw [List.getElem?_append_left (by simp; omega), List.getElem?_append_right (by simp; omega), List.getElem?_drop]
  congr 1
  simp
  omega
theorem markV_set (mk : Nat → Value) (vs rest : List Value) (i : Nat) (h : i < vs.length) (u : Value) (hu : u = mk i) : (markV mk vs rest i).setIfInBounds i u = markV mk vs rest (i + 1) := by
  subst hu
  simp only [markV, List.setIfInBounds_toArray]
  rw [List.set_append_left _ _ (by simp; omega), List.set_append_right _ _ (by simp), List.length_map, List.length_range, Nat.sub_self, List.drop_eq_getElem_cons h, List.set_cons_zero, List.range_succ, List.map_append, List.append_assoc, List.append_assoc, List.append_assoc]
  simp
theorem MarkRelV.own {w : World} {g : Nat} {t : TypeId} {A : Option Addr} {n m : Nat} {vs rest : List Value} {mk : Nat → Value} (h : MarkRelV w g t A n vs rest mk (n * m)) (hl : vs.length = n * m) : OwnV w g t m A n ((List.range (n * m)).map mk) :=
  ⟨by simp, fun hn => by
    obtain ⟨e, hb⟩ := h hn
    have := markV_all mk vs rest
    rw [hl] at this
    rw [this] at hb
    exact ⟨e, rest, hb⟩⟩
section
variable {P : Program} (w : World)
theorem run_append_gone (base : Nat) (t ty e : TypeId) (i : TypeInfo) (size : Nat) (ht : P.underlying t = some (.slice e)) (hi : P.info? e = some i)
    (v : Value) (n : Nat) (xs : List Value) (hown : w.ownsRow base e size v n xs) (c : Nat) : (Builtin.append_ #[t, t] ty #[v, .slice none 0 c]).run P w = .ok v w := by
  rcases hown.2 with ⟨rfl, rfl⟩ | ⟨g, cap, cur, rfl, _, _, hnc, _⟩
  · simp [Builtin.append_, run_underlying ht, sizeOf, typeInfo, hi, Builtin.lenOf, Builtin.firstCells]
  · simp [Builtin.append_, run_underlying ht, sizeOf, typeInfo, hi, Builtin.lenOf, Builtin.firstCells, hnc, storeCells]
theorem run_append_sl (base : Nat) (t ty e : TypeId) (i : TypeInfo) (z : Value) (size bytes : Nat) (ht : P.underlying t = some (.slice e)) (hi : P.info? e = some i) (hz : i.zero = some z)
    (hsize : i.size = size) (hby : i.bytes = bytes) (hzs : z.cells.size = size) (hsz : 0 < size)
    (v : Value) (n : Nat) (xs : List Value) (hown : w.ownsRow base e size v n xs)
    (B : Nat) (A : Option Addr) (m c : Nat) (news : List Value) (hr : Sl w B size A m news) (h1 : ∀ u ∈ news, u.oneCell' = true)
    (h63 : n + m ≤ maxLen) (hbytes : (n + m) * bytes ≤ 140737488355328) (hbase : base ≤ w.heap.size) :
    ∃ v' w', (Builtin.append_ #[t, t] ty #[v, .slice A m c]).run P w = .ok v' w' ∧ w'.ownsRow base e size v' (n + m) (xs ++ news) ∧ w.grownBy w' v.ownBlock ∧
      (v'.ownBlock = v.ownBlock ∨ v'.ownBlock = some w.heap.size) := by
  have none_ : m = 0 → news = [] := fun h0 => List.eq_nil_of_length_eq_zero (by have := hr.1; rw [h0] at this; simpa using this)
  rcases A with _ | ad
  · have hm : m = 0 := by
      rcases Nat.eq_zero_or_pos m with h0 | h0
      · exact h0
      · obtain ⟨b, off, h, _⟩ := hr.2 h0
        cases h
    have hn := none_ hm
    subst hm hn
    exact ⟨v, w, run_append_gone w base t ty e i size ht hi v n xs hown c, by simpa using hown, World.grownBy.refl w _, .inl rfl⟩
  · have hcells : ∀ j u, news[j]? = some u → w.cell? (ad.add j) = some u := by
      intro j u hu
      rcases Nat.eq_zero_or_pos m with h0 | h0
      · rw [none_ h0] at hu
        simp at hu
      · obtain ⟨b, off, h, _, hc⟩ := hr.2 h0
        injection h with h
        subst h
        rw [Go.WideShapes.add_plain]
        exact hc j u hu
    obtain ⟨v', w', hrun, h2, h3, _, h5⟩ := run_append_own_at (P := P) w base t ty e i z size bytes ht hi hz hsize hby hzs hsz v n xs hown ad m c news hr.1 hcells h1 h63 hbytes hbase
    exact ⟨v', w', hrun, h2, h3, h5⟩
theorem wp_append_sl {o : Oper} {a : Act} {K : Act → World → Prop} {Q : Exit → Act → World → Prop} (s x : Operand) (t : TypeId)
    (ho : o.op = .call { callee := .builtin .append, args := #[s, x], argTypes := #[t, t] })
    (base : Nat) (e : TypeId) (i : TypeInfo) (z : Value) (size bytes : Nat) (ht : P.underlying t = some (.slice e)) (hi : P.info? e = some i) (hz : i.zero = some z)
    (hsize : i.size = size) (hby : i.bytes = bytes) (hzs : z.cells.size = size) (hsz : 0 < size)
    (v : Value) (n : Nat) (xs : List Value) (hs : a.eval s = v) (hown : w.ownsRow base e size v n xs)
    (B : Nat) (A : Option Addr) (m c : Nat) (news : List Value) (hx : a.eval x = .slice A m c) (hr : Sl w B size A m news) (h1 : ∀ u ∈ news, u.oneCell' = true)
    (h63 : n + m ≤ maxLen) (hbytes : (n + m) * bytes ≤ 140737488355328) (hbase : base ≤ w.heap.size)
    (h : ∀ v' w', w'.ownsRow base e size v' (n + m) (xs ++ news) → w.grownBy w' v.ownBlock → (v'.ownBlock = v.ownBlock ∨ v'.ownBlock = some w.heap.size) → K (a.put o.dst v') w') : o.wp P a w K Q := by
  obtain ⟨v', w', hrun, h2, h3, h4⟩ := run_append_sl (P := P) w base t o.type e i z size bytes ht hi hz hsize hby hzs hsz v n xs hown B A m c news hr h1 h63 hbytes hbase
  unfold Oper.wp execOp
  simp only [ho, resolve, invoke, builtin, Sem.run_bind, Sem.run_pure, Result.andThen_ok, List.map_toArray, List.map_cons, List.map_nil, hs, hx, hrun]
  exact h v' w' h2 h3 h4
theorem wpList_append_sl {ops : Array Oper} {rest : List Oper} {o : Oper} {a : Act} {Q : Exit → Act → World → Prop} (hgd : o.guard = none) (s x : Operand) (t : TypeId)
    (ho : o.op = .call { callee := .builtin .append, args := #[s, x], argTypes := #[t, t] })
    (base : Nat) (e : TypeId) (i : TypeInfo) (z : Value) (size bytes : Nat) (ht : P.underlying t = some (.slice e)) (hi : P.info? e = some i) (hz : i.zero = some z)
    (hsize : i.size = size) (hby : i.bytes = bytes) (hzs : z.cells.size = size) (hsz : 0 < size)
    (v : Value) (n : Nat) (xs : List Value) (hs : a.eval s = v) (hown : w.ownsRow base e size v n xs)
    (B : Nat) (A : Option Addr) (m c : Nat) (news : List Value) (hx : a.eval x = .slice A m c) (hr : Sl w B size A m news) (h1 : ∀ u ∈ news, u.oneCell' = true)
    (h63 : n + m ≤ maxLen) (hbytes : (n + m) * bytes ≤ 140737488355328) (hbase : base ≤ w.heap.size)
    (h : ∀ v' w', w'.ownsRow base e size v' (n + m) (xs ++ news) → w.grownBy w' v.ownBlock → (v'.ownBlock = v.ownBlock ∨ v'.ownBlock = some w.heap.size) → wpList P ops Q rest (a.put o.dst v') w') : wpList P ops Q (o :: rest) a w :=
  wpList_plain hgd fun _ hK => wp_append_sl w s x t ho base e i z size bytes ht hi hz hsize hby hzs hsz v n xs hs hown B A m c news hx hr h1 h63 hbytes hbase fun v' w' h2 h3 h4 => hK _ _ (h v' w' h2 h3 h4)
theorem step_append_sl {ops : Array Oper} {o : Oper} {a : Act} {K : Act → World → Prop} {Q : Exit → Act → World → Prop} {E : Prop} (hgd : o.guard = none) (s x : Operand) (t : TypeId)
    (ho : o.op = .call { callee := .builtin .append, args := #[s, x], argTypes := #[t, t] })
    (base : Nat) (e : TypeId) (i : TypeInfo) (z : Value) (size bytes : Nat) (ht : P.underlying t = some (.slice e)) (hi : P.info? e = some i) (hz : i.zero = some z)
    (hsize : i.size = size) (hby : i.bytes = bytes) (hzs : z.cells.size = size) (hsz : 0 < size)
    (v : Value) (n : Nat) (xs : List Value) (hs : a.eval s = v) (hown : w.ownsRow base e size v n xs)
    (B : Nat) (A : Option Addr) (m c : Nat) (news : List Value) (hx : a.eval x = .slice A m c) (hr : Sl w B size A m news) (h1 : ∀ u ∈ news, u.oneCell' = true)
    (h63 : n + m ≤ maxLen) (hbytes : (n + m) * bytes ≤ 140737488355328) (hbase : base ≤ w.heap.size)
    (h : ∀ v' w', w'.ownsRow base e size v' (n + m) (xs ++ news) → w.grownBy w' v.ownBlock → (v'.ownBlock = v.ownBlock ∨ v'.ownBlock = some w.heap.size) → K (a.put o.dst v') w') :
    if Region.wanted o (yielded ops a.tmps) = true then Oper.wp P o a w K Q else E := by
  have hw : Region.wanted o (yielded ops a.tmps) = true := by simp [Region.wanted, hgd]
  rw [if_pos hw]
  exact wp_append_sl w s x t ho base e i z size bytes ht hi hz hsize hby hzs hsz v n xs hs hown B A m c news hx hr h1 h63 hbytes hbase h
end
end Go.Proofs.Ytcfbihponecblaa
/- The reference's source of choices: numbers in range, the source as it lies. Conditions: bounds. -/
namespace Go.Proofs.Ytcfbihponecblaa
set_option linter.unusedSimpArgs false
set_option linter.unusedVariables false
open Go.RowKit

/-- A source of choices at a place: the bytes, a place in them, a seed. -/
structure Src (w : World) (b : Nat) (A : Option Addr) (n c M : Nat) (zs : List Int) : Prop where
  blk : ∃ (a : Nat) (s : Int), a ≤ M ∧ 0 ≤ s ∧ s < 18446744073709551616 ∧ Blk w b 55 #[.slice A n c, .int .i64 a, .int .u64 s]
  sl : Sl w w.heap.size 1 A n (zs.map (Value.int .u8))
  bd : ∀ z ∈ zs, 0 ≤ z ∧ z ≤ 255
  ap : ∀ b' off, A = some ⟨b', off, none⟩ → 0 < n → b' ≠ b
theorem u64_rng (x : Int) : 0 ≤ IntKind.u64.wrap x ∧ IntKind.u64.wrap x < 18446744073709551616 := by
  rw [IntKind.wrap_u64]
  omega
theorem src_grown {w w' : World} {row : Option Nat} (h : w.grownBy w' row) (k : Nat) : w.grownBy (w'.drewN k) row := ⟨h.os, h.tape, h.output, h.size, h.block⟩
theorem Sl.keepS {w w' : World} {size n : Nat} {A : Option Addr} {xs : List Value} (h : Sl w w.heap.size size A n xs) (hk : ∀ b off, A = some ⟨b, off, none⟩ → 0 < n → ∀ o, w'.cell? ⟨b, o, none⟩ = w.cell? ⟨b, o, none⟩) (hz : w.heap.size ≤ w'.heap.size) : Sl w' w'.heap.size size A n xs :=
  ⟨h.1, fun hn => by
    obtain ⟨b, off, e, hb, hc⟩ := h.2 hn
    exact ⟨b, off, e, Nat.lt_of_lt_of_le hb hz, fun j u hu => (hk b off e hn _).trans (hc j u hu)⟩⟩
theorem src_dr {w : World} {b n c M : Nat} {A : Option Addr} {zs : List Int} (h : Src w b A n c M zs) (k : Nat) : Src (w.drewN k) b A n c M zs := by
  obtain ⟨⟨a, s, ha, s0, s1, hb⟩, hsl, hbd, hap⟩ := h
  exact ⟨⟨a, s, ha, s0, s1, hb⟩, hsl.drewN k, hbd, hap⟩
theorem Src.mono {w : World} {b n c M M' : Nat} {A : Option Addr} {zs : List Int} (h : Src w b A n c M zs) (hm : M ≤ M') : Src w b A n c M' zs := by
  obtain ⟨⟨a, s, ha, s0, s1, hb⟩, hsl, hbd, hap⟩ := h
  exact ⟨⟨a, s, Nat.le_trans ha hm, s0, s1, hb⟩, hsl, hbd, hap⟩
theorem Src.lt {w : World} {b n c M : Nat} {A : Option Addr} {zs : List Int} (h : Src w b A n c M zs) : b < w.heap.size := by
  obtain ⟨_, _, _, _, _, hb⟩ := h.blk
  exact hb.lt
theorem grown_two {w w1 w2 : World} {b : Nat} (h1 : w.grownBy w1 (some b)) (h2 : w1.grownBy w2 (some b)) (hb : b < w.heap.size) : w.grownBy w2 (some b) :=
  ⟨h2.os.trans h1.os, h2.tape.trans h1.tape, h2.output.trans h1.output, Nat.le_trans h1.size h2.size, fun k hk hne => (h2.block k (Nat.lt_of_lt_of_le hk h1.size) hne).trans (h1.block k hk hne)⟩
theorem src_next {w : World} {b n c M a k1 k2 : Nat} {A : Option Addr} {zs : List Int} {s : Int} {u : Value} (hb : Blk w b 55 #[.slice A n c, u, .int .u64 s]) (hsl : Sl w w.heap.size 1 A n (zs.map (Value.int .u8))) (hbd : ∀ z ∈ zs, 0 ≤ z ∧ z ≤ 255) (hap : ∀ b' off, A = some ⟨b', off, none⟩ → 0 < n → b' ≠ b) (ha : a ≤ M) (S : Int) :
    Src ((((w.drewN k1).setCell ⟨b, 1, none⟩ (.int .i64 ((a : Int) + 1))).setCell ⟨b, 2, none⟩ (.int .u64 (IntKind.u64.wrap S))).drewN k2) b A n c (M + 1) zs ∧ w.grownBy ((((w.drewN k1).setCell ⟨b, 1, none⟩ (.int .i64 ((a : Int) + 1))).setCell ⟨b, 2, none⟩ (.int .u64 (IntKind.u64.wrap S))).drewN k2) (some b) := by
  refine ⟨⟨⟨a + 1, IntKind.u64.wrap S, by omega, (u64_rng _).1, (u64_rng _).2, ?_⟩, ?_, hbd, hap⟩, ?_⟩
  · exact Blk.set (Blk.set hb 1 (.int .i64 ((a : Int) + 1))) 2 _
  · refine hsl.keepS ?_ ?_
    · intro b'' o'' he h0 o
      have := hap b'' o'' he h0
      exact (World.cell?_setCell_other _ _ _ _ (fun e => by injection e with e1; exact this e1.symm)).trans (World.cell?_setCell_other _ _ _ _ (fun e => by injection e with e1; exact this e1.symm))
    · simp
  · exact src_grown (only_setCell (p := ⟨b, 2, none⟩) (only_setCell (p := ⟨b, 1, none⟩) (src_grown (World.grownBy.refl w _) _) (.inl rfl) _) (.inl rfl) _) _
theorem byte_of {S : Int} (h0 : 0 ≤ S) (h1 : S < 18446744073709551616) : ∃ x : Nat, bits .and .u64 (S / 1099511627776) 255 = x ∧ x ≤ 255 := by
  obtain ⟨m, rfl⟩ := Int.eq_ofNat_of_zero_le h0
  refine ⟨m / 1099511627776 &&& 255, ?_, Nat.and_le_right⟩
  exact bits_and_u64_nat (m / 1099511627776) 255 (by omega) (by omega)
set_option maxRecDepth 100000 in
set_option maxHeartbeats 2000000 in
theorem next_any (b : Nat) (A : Option Addr) (n c M : Nat) (zs : List Int) (w : World) (h : Src w b A n c M zs) (hn : n ≤ 1048576) (hM : M ≤ 1000000000) :
    Calls Try.prog 38 #[.pointer (some ⟨b, 0, none⟩)] w fun e w' => ∃ x : Nat, e = .returned (.int .i64 x) ∧ x ≤ 255 ∧ Src w' b A n c (M + 1) zs ∧ w.grownBy w' (some b) := by
  obtain ⟨⟨a, s, ha, s0, s1, hb⟩, hsl, hbd, hap⟩ := h
  have hzl : zs.length = n := by have := hsl.1; simpa using this
  have c0 := hb.cell 0
  have c1 := hb.cell 1
  have c2 := hb.cell 2
  have f0 := hb.free 0
  have f1 := hb.free 1
  have f2 := hb.free 2
  simp only [List.getElem?_toArray, List.getElem?_cons_zero, List.getElem?_cons_succ] at c0 c1 c2
  have HB := Lib.hid hb
  by_cases hlt : a < n
  case pos =>
    obtain ⟨b', off, rfl, hb', hc⟩ := hsl.2 (by omega)
    have hne := hap b' off rfl (by omega)
    have hz : zs[a]? = some (zs.getD a 0) := by rw [List.getD_eq_getElem?_getD, List.getElem?_eq_getElem (by omega)]; rfl
    have hcz := hc a (.int .u8 (zs.getD a 0)) (by rw [List.getElem?_map, hz]; rfl)
    have hzb := hbd _ (getD_mem 0 (show a < zs.length by omega))
    revert hcz hzb
    generalize zs.getD a 0 = z
    intro hcz hzb
    obtain ⟨z0, z1⟩ := hzb
    have hwz : IntKind.i64.wrap z = z := IntWalk.i64_in _ (by omega)
    have HS := Lib.hid hsl
    have HBD := Lib.hid hbd
    have HAP := Lib.hid hap
    clear hc hz hsl hap hb hzl hbd
    go_enter Try.func38, Try.ntmps38
    go_wp2_with fail
    first | (refine wp_region_quiet_lit (by kernel_rfl) (by kernel_rfl) ?_; refine WQ.of ?_; (repeat (refine WQ.step (fun K hK => ?_); go_simp; first | (refine hK _ ?_; clear hK K) | (apply Exists.intro; refine ⟨fun _ => ?_, hK _ ?_⟩; (fail); clear hK K))); refine WQ.nil ?_; intro _ hw'; obtain ⟨nq, hw''⟩ := hw'; subst hw'') | go_quiet (fail)
    go_wp2_with fail
    first | (refine wp_region_quiet_lit (by kernel_rfl) (by kernel_rfl) ?_; refine WQ.of ?_; (repeat (refine WQ.step (fun K hK => ?_); go_simp; first | (refine hK _ ?_; clear hK K) | (apply Exists.intro; refine ⟨fun _ => ?_, hK _ ?_⟩; (fail); clear hK K))); refine WQ.nil ?_; intro _ hw'; obtain ⟨nq, hw''⟩ := hw'; subst hw'') | go_quiet (fail)
    go_wp2_with fail
    first | (refine wp_region_quiet_lit (by kernel_rfl) (by kernel_rfl) ?_; refine WQ.of ?_; (repeat (refine WQ.step (fun K hK => ?_); go_simp; first | (refine hK _ ?_; clear hK K) | (apply Exists.intro; refine ⟨fun _ => ?_, hK _ ?_⟩; (fail); clear hK K))); refine WQ.nil ?_; intro _ hw'; obtain ⟨nq, hw''⟩ := hw'; subst hw'') | go_quiet (fail)
    go_wp2_with fail
    go_ret
    obtain ⟨x, hx⟩ := Int.eq_ofNat_of_zero_le z0
    refine ⟨x, by rw [hx]; rfl, by omega, ?_⟩
    exact src_next HB.out HS.out HBD.out HAP.out ha _
  case neg =>
    have HS := Lib.hid hsl
    have HBD := Lib.hid hbd
    have HAP := Lib.hid hap
    clear hsl hap hb hzl hbd
    go_enter Try.func38, Try.ntmps38
    go_wp2_with fail
    first | (refine wp_region_quiet_lit (by kernel_rfl) (by kernel_rfl) ?_; refine WQ.of ?_; (repeat (refine WQ.step (fun K hK => ?_); go_simp; first | (refine hK _ ?_; clear hK K) | (apply Exists.intro; refine ⟨fun _ => ?_, hK _ ?_⟩; (fail); clear hK K))); refine WQ.nil ?_; intro _ hw'; obtain ⟨nq, hw''⟩ := hw'; subst hw'') | go_quiet (fail)
    go_wp2_with fail
    first | (refine wp_region_quiet_lit (by kernel_rfl) (by kernel_rfl) ?_; refine WQ.of ?_; (repeat (refine WQ.step (fun K hK => ?_); go_simp; first | (refine hK _ ?_; clear hK K) | (apply Exists.intro; refine ⟨fun _ => ?_, hK _ ?_⟩; (fail); clear hK K))); refine WQ.nil ?_; intro _ hw'; obtain ⟨nq, hw''⟩ := hw'; subst hw'') | go_quiet (fail)
    go_wp2_with fail
    go_ret
    obtain ⟨x, hx, hx2⟩ := byte_of (u64_rng (IntKind.u64.wrap (IntKind.u64.wrap (s * 6364136223846793005)) + 1442695040888963407)).1 (u64_rng _).2
    refine ⟨x, ?_, hx2, src_next HB.out HS.out HBD.out HAP.out ha _⟩
    show Ending.returned (.int .i64 (wrap64 (bits .and .u64 (IntKind.u64.wrap (IntKind.u64.wrap (IntKind.u64.wrap (s * 6364136223846793005)) + 1442695040888963407) / 1099511627776) 255))) = _
    rw [hx]
    have e : wrap64 (x : Int) = x := by unfold wrap64; omega
    rw [e]
set_option maxHeartbeats 1000000 in
theorem pick_any (b : Nat) (A : Option Addr) (n c M : Nat) (zs : List Int) (m : Int) (w : World) (h : Src w b A n c M zs) (hn : n ≤ 1048576) (hM : M ≤ 999999998) (hm : m ≤ 1000000000) :
    Calls Try.prog 24 #[.pointer (some ⟨b, 0, none⟩), .int .i64 m] w fun e w' => ∃ x : Int, e = .returned (.int .i64 x) ∧ 0 ≤ x ∧ (1 < m → x < m) ∧ (m ≤ 1 → x = 0) ∧ Src w' b A n c (M + 2) zs ∧ w.grownBy w' (some b) := by
  by_cases h1 : 1 < m
  case neg =>
    have HS0 := Lib.hid (h.mono (show M ≤ M + 2 by omega))
    go_enter Try.func24, Try.ntmps24
    go_wp2_with fail
    go_ret
    have hm2 := HS0.out
    first
      | exact ⟨0, rfl, by omega, fun h => absurd h (by omega), fun _ => rfl, hm2, World.grownBy.refl _ _⟩
      | exact ⟨0, rfl, by omega, fun h => absurd h (by omega), rfl, hm2, World.grownBy.refl _ _⟩
      | exact ⟨0, rfl, by omega, rfl, hm2, World.grownBy.refl _ _⟩
      | (trace_state; fail)
  case pos =>
    have H := Lib.hid h
    clear h
    by_cases h2 : 200 < m
    case neg =>
      go_enter Try.func24, Try.ntmps24
      go_wp2_with (go_at_call 38; refine (next_any b A n c M zs _ H.out hn (by omega)).mono ?_; rintro e w1 ⟨x, rfl, hx, s1, g1⟩)
      go_ret
      have hx0 := Int.emod_nonneg (x : Int) (b := m) (by omega)
      have hx1 := Int.emod_lt_of_pos (x : Int) (b := m) (by omega)
      exact ⟨(x : Int) % m, rfl, hx0, fun _ => hx1, fun h => absurd h (by omega), s1.mono (by omega), g1⟩
    case pos =>
      go_enter Try.func24, Try.ntmps24
      go_wp2_with (go_at_call 38; first | (refine (next_any b A n c M zs _ H.out hn (by omega)).mono ?_; rintro e w1 ⟨x, rfl, hx, s1, g1⟩) | (refine (next_any b A n c (M + 1) zs _ s1 hn (by omega)).mono ?_; rintro e w2 ⟨y, rfl, hy, s2, g2⟩))
      go_ret
      have hx0 := Int.emod_nonneg ((x : Int) * 256 + y) (b := m) (by omega)
      have hx1 := Int.emod_lt_of_pos ((x : Int) * 256 + y) (b := m) (by omega)
      exact ⟨((x : Int) * 256 + y) % m, rfl, hx0, fun _ => hx1, fun h => absurd h (by omega), s2, grown_two g1 g2 H.out.lt⟩
theorem one_any (b : Nat) (A : Option Addr) (n c M : Nat) (zs : List Int) (m : Int) (w : World) (h : Src w b A n c M zs) (hn : n ≤ 1048576) (hM : M ≤ 999999998) (hm : m ≤ 1000000000) :
    Calls Try.prog 22 #[.pointer (some ⟨b, 0, none⟩), .int .i64 m] w fun e w' => ∃ q : Bool, e = .returned (.bool q) ∧ Src w' b A n c (M + 2) zs ∧ w.grownBy w' (some b) := by
  go_enter Try.func22, Try.ntmps22
  go_wp2_with (go_at_call 24; refine (pick_any b A n c M zs m _ h hn hM hm).mono ?_; rintro e w1 ⟨x, rfl, hx, _, _, s1, g1⟩)
  go_ret
  exact ⟨_, rfl, s1, g1⟩
theorem l00From_any (A : Option Addr) (n c : Nat) (zs : List Int) (w : World) (hs : Sl w w.heap.size 1 A n (zs.map (Value.int .u8))) (hz : ∀ z ∈ zs, 0 ≤ z ∧ z ≤ 255) :
    Calls Try.prog 11 #[.slice A n c] w fun e w' => ∃ b : Nat, e = .returned (.pointer (some ⟨b, 0, none⟩)) ∧ w.heap.size ≤ b ∧ Src w' b A n c 0 zs ∧ Below w.heap.size w w' := by
  go_enter Try.func11, Try.ntmps11
  go_wp2_with fail
  go_ret
  refine ⟨_, rfl, by (repeat' (first | (with_reducible exact Below.refl _ _) | (with_reducible assumption) | (with_reducible refine Below.alloc ?_ ?_ _) | (with_reducible refine Below.drew ?_) | (with_reducible refine belowDrewN ?_ _) | (with_reducible refine Below.setCell ?_ ?_ _) | (with_reducible refine Below.via (by with_reducible assumption) ?_ ?_) | (with_reducible refine Below.viaD (by with_reducible assumption) ?_ ?_) | (with_reducible exact Below.size (by with_reducible assumption)) | go_size | (with_reducible refine Nat.le_trans ?_ (Below.size (by with_reducible assumption))) | (with_reducible refine Nat.le_trans ?_ (sizeAlloc _ _)) | (with_reducible refine Nat.le_trans ?_ (sizeSet _ _ _)) | (with_reducible refine Nat.le_trans ?_ (sizeDrew _)))), ⟨⟨0, 0, by omega, by omega, by omega, Blk.new' rfl⟩, hs.later (by (repeat' (first | (with_reducible exact Below.refl _ _) | (with_reducible assumption) | (with_reducible refine Below.alloc ?_ ?_ _) | (with_reducible refine Below.drew ?_) | (with_reducible refine belowDrewN ?_ _) | (with_reducible refine Below.setCell ?_ ?_ _) | (with_reducible refine Below.via (by with_reducible assumption) ?_ ?_) | (with_reducible refine Below.viaD (by with_reducible assumption) ?_ ?_) | (with_reducible exact Below.size (by with_reducible assumption)) | go_size | (with_reducible refine Nat.le_trans ?_ (Below.size (by with_reducible assumption))) | (with_reducible refine Nat.le_trans ?_ (sizeAlloc _ _)) | (with_reducible refine Nat.le_trans ?_ (sizeSet _ _ _)) | (with_reducible refine Nat.le_trans ?_ (sizeDrew _))))), hz, ?_⟩, by (repeat' (first | (with_reducible exact Below.refl _ _) | (with_reducible assumption) | (with_reducible refine Below.alloc ?_ ?_ _) | (with_reducible refine Below.drew ?_) | (with_reducible refine belowDrewN ?_ _) | (with_reducible refine Below.setCell ?_ ?_ _) | (with_reducible refine Below.via (by with_reducible assumption) ?_ ?_) | (with_reducible refine Below.viaD (by with_reducible assumption) ?_ ?_) | (with_reducible exact Below.size (by with_reducible assumption)) | go_size | (with_reducible refine Nat.le_trans ?_ (Below.size (by with_reducible assumption))) | (with_reducible refine Nat.le_trans ?_ (sizeAlloc _ _)) | (with_reducible refine Nat.le_trans ?_ (sizeSet _ _ _)) | (with_reducible refine Nat.le_trans ?_ (sizeDrew _))))⟩
  intro b' off e h0
  obtain ⟨b2, off2, e2, hb2, _⟩ := hs.2 h0
  rw [e] at e2
  injection e2 with e2
  injection e2 with e2
  omega
end Go.Proofs.Ytcfbihponecblaa
