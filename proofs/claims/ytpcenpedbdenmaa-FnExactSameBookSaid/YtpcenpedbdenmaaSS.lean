/- Slices of slices of numbers: copies, comparisons, marks. Conditions: lengths below 2^20. -/
import Derived.Test.YtpcenpedbdenmaaLists
import Derived.Test.YtpcenpedbdenmaaInt64S
import Derived.Test.YtpcenpedbdenmaaRules
namespace Go.Proofs.Ytpcenpedbdenmaa
set_option linter.unusedSimpArgs false
set_option linter.unusedVariables false
open Go.RowKit Go.WideShapes Go.ChangeShapes Go.Deep

theorem boxed2 (w : World) (o : Obj) : Below w.heap.size w (w.alloc o) := Below.alloc (Below.refl _ _) (Nat.le_refl _) o
/-- The slice value holds slices that read as the lists. -/
structure Sl2 (w : World) (B : Nat) (A : Option Addr) (n : Nat) (pss : List (List Int)) : Prop where
  len : pss.length = n
  at_ : 0 < n → ∃ b off, A = some ⟨b, off, none⟩ ∧ b < B ∧ ∀ j, j < n → ∃ (A' : Option Addr) (m c : Nat), w.cell? ⟨b, off + j, none⟩ = some (.slice A' m c) ∧ Sl w B 1 A' m ((pss.getD j []).map (Value.int .i64)) ∧ m ≤ 9223372036854775807
section
variable {w w' : World} {B B' n : Nat} {A : Option Addr} {pss : List (List Int)}
theorem Sl2.keep (h : Sl2 w B A n pss) (hk : ∀ b o, b < B → w'.cell? ⟨b, o, none⟩ = w.cell? ⟨b, o, none⟩) : Sl2 w' B A n pss :=
  ⟨h.1, fun hn => by
    obtain ⟨b, off, e, hb, hc⟩ := h.2 hn
    refine ⟨b, off, e, hb, fun j hj => ?_⟩
    obtain ⟨A', m, c, h1, h2, h3⟩ := hc j hj
    exact ⟨A', m, c, (hk _ _ hb).trans h1, h2.keep hk, h3⟩⟩
theorem Sl2.mono (h : Sl2 w B A n pss) (hB : B ≤ B') : Sl2 w B' A n pss :=
  ⟨h.1, fun hn => by
    obtain ⟨b, off, e, hb, hc⟩ := h.2 hn
    refine ⟨b, off, e, Nat.lt_of_lt_of_le hb hB, fun j hj => ?_⟩
    obtain ⟨A', m, c, h1, h2, h3⟩ := hc j hj
    exact ⟨A', m, c, h1, h2.mono hB, h3⟩⟩
theorem Sl2.below (h : Sl2 w B A n pss) (hb : Below B w w') : Sl2 w' B A n pss := h.keep fun _ _ hp => hb.cell hp
theorem Sl2.later (h : Sl2 w w.heap.size A n pss) (hb : Below w.heap.size w w') : Sl2 w' w'.heap.size A n pss := (h.below hb).mono hb.size
theorem Sl2.row (h : Sl2 w B A n pss) {k : Nat} (hk : k < n) : ∃ b off l A' m c, A = some ⟨b, off, none⟩ ∧ b < B ∧ Hid (pss.getD k [] = l) ∧ w.cell? ⟨b, off + k, none⟩ = some (.slice A' m c) ∧ Sl w B 1 A' m (l.map (Value.int .i64)) ∧ m ≤ 9223372036854775807 := by
  obtain ⟨b, off, e, hb, hc⟩ := h.2 (by omega)
  obtain ⟨A', m, c, h1, h2, h3⟩ := hc k hk
  exact ⟨b, off, _, A', m, c, e, hb, rfl, h1, h2, h3⟩
end
section
variable {H : Type} {enc : TypeId × Value → H} {P : Program} {w : World} {spare : Nat → Bool} {held : Bool}
theorem rows_ints {e e' : TypeId} {n : Nat} {A : Option Addr} {xs : List Value} (he : P.underlying e = some (.slice e')) (hC : P.cellsOf e' = 1) (hi : P.underlying e' = some (.int .i64)) (hs : Sl w w.heap.size 1 A n xs)
    (h : ∀ i, i < n → ∃ (f : Nat) (y : DataW H × List MemPlace), DataW.trod enc P w 0 spare held f e ((xs.drop (i * 1)).take 1) = some y) : ∃ pss, Sl2 w w.heap.size A n pss := by
  have hl : xs.length = n := by have := hs.1; omega
  have hx : ∀ i, i < n → ∃ (l : List Int) (A' : Option Addr) (m c : Nat), xs[i]? = some (.slice A' m c) ∧ Sl w w.heap.size 1 A' m (l.map (Value.int .i64)) ∧ m ≤ 9223372036854775807 := by
    intro i hin
    obtain ⟨f, y, hy⟩ := h i hin
    have e1 : (xs.drop (i * 1)).take 1 = [xs[i]] := by
      rw [Nat.mul_one, List.drop_eq_getElem_cons (by omega)]; rfl
    rw [e1] at hy
    obtain ⟨A', m, c, ys, hv, hmc, hcm, hsl, hr⟩ := leaf_row he hC (by omega) hy
    obtain ⟨zs, rfl, _⟩ := row_ints hi hsl.1 hr
    exact ⟨zs, A', m, c, by rw [List.getElem?_eq_getElem (by omega), hv], hsl, Nat.le_trans hmc hcm⟩
  let g : Nat → List Int := fun i => if q : i < n then Classical.choose (hx i q) else []
  refine ⟨(List.range n).map g, by simp, fun hn => ?_⟩
  obtain ⟨b, off, e, hb, hc⟩ := hs.2 hn
  refine ⟨b, off, e, hb, fun j hj => ?_⟩
  obtain ⟨A', m, c, h1, h2, h3⟩ := Classical.choose_spec (hx j hj)
  refine ⟨A', m, c, hc j _ h1, ?_, h3⟩
  have e2 : ((List.range n).map g).getD j [] = Classical.choose (hx j hj) := by
    rw [List.getD_eq_getElem?_getD, List.getElem?_map, List.getElem?_range hj]
    simp only [Option.map_some, Option.getD_some, g, dif_pos hj]
  rw [e2]
  exact h2
end
/-- How many numbers the first k lists hold. -/
def sumLen (pss : List (List Int)) : Nat → Nat
  | 0 => 0
  | k + 1 => sumLen pss k + (pss.getD k []).length
theorem sumLen_mono (pss : List (List Int)) {j k : Nat} (h : j ≤ k) : sumLen pss j ≤ sumLen pss k := by
  induction h with
  | refl => exact Nat.le_refl _
  | step _ ih => exact Nat.le_trans ih (Nat.le_add_right _ _)
theorem sumLen_each (pss : List (List Int)) {j k : Nat} (h : j < k) : (pss.getD j []).length ≤ sumLen pss k :=
  Nat.le_trans (Nat.le_add_left _ _) (sumLen_mono pss (j := j + 1) h)
def SzR (pss : List (List Int)) (n : Nat) (left : Int) : Int := if ((n + sumLen pss n : Nat) : Int) ≤ left then left - ((n + sumLen pss n : Nat) : Int) else -1
/-- The cells of an outer list of which the first lists are laid. -/
def rowCells (pss : List (List Int)) (gs : Nat → Nat) (n k : Nat) : List Value := (List.range n).map fun j => if j < k then .slice (some ⟨gs j, 0, none⟩) (pss.getD j []).length (pss.getD j []).length else .slice none 0 0
theorem rowCells_at (pss : List (List Int)) (gs : Nat → Nat) {n k j : Nat} (hj : j < n) : (rowCells pss gs n k)[j]? = some (if j < k then .slice (some ⟨gs j, 0, none⟩) (pss.getD j []).length (pss.getD j []).length else .slice none 0 0) := by
  rw [rowCells, List.getElem?_map, List.getElem?_range hj]; rfl
theorem rowCells_set (pss : List (List Int)) (gs : Nat → Nat) {n k g : Nat} (hk : k < n) : (rowCells pss gs n k).toArray.setIfInBounds k (.slice (some ⟨g, 0, none⟩) (pss.getD k []).length (pss.getD k []).length) = (rowCells pss (fun j => if j = k then g else gs j) n (k + 1)).toArray := by
  rw [List.setIfInBounds_toArray]
  congr 1
  apply List.ext_getElem?
  intro j
  rw [List.getElem?_set]
  rcases Nat.lt_or_ge j n with hj | hj
  · rw [rowCells_at _ _ hj, rowCells_at _ _ hj]
    have hl : k < (rowCells pss gs n k).length := by simpa [rowCells] using hk
    by_cases h : k = j
    · subst h; simp [hl]
    · rw [if_neg h]
      by_cases h2 : j < k
      · simp [h2, show ¬ j = k from fun e => h e.symm, show j < k + 1 from by omega]
      · simp [h2, show ¬ j < k + 1 from by omega]
  · rw [List.getElem?_eq_none (by simpa [rowCells] using hj), List.getElem?_eq_none (by simpa [rowCells] using hj)]
    split
    · rename_i h; subst h; omega
    · rfl
/-- The inner lists of a copy: blocks of their own that hold the lists. -/
def Laid (w : World) (lo : Nat) (pss : List (List Int)) (gs : Nat → Nat) (k : Nat) : Prop := ∀ j, j < k → lo < gs j ∧ gs j < w.heap.size ∧ (∀ i, i < j → gs i < gs j) ∧ Own w (gs j) 2 1 (some ⟨gs j, 0, none⟩) (pss.getD j []).length (pss.getD j [])
theorem Laid.later {w w' : World} {lo k : Nat} {pss : List (List Int)} {gs : Nat → Nat} (h : Laid w lo pss gs k) (hb : Below w.heap.size w w') : Laid w' lo pss gs k := fun j hj => ⟨(h j hj).1, Nat.lt_of_lt_of_le (h j hj).2.1 hb.size, (h j hj).2.2.1, (h j hj).2.2.2.later hb⟩
theorem Laid.set {w : World} {lo k : Nat} {pss : List (List Int)} {gs : Nat → Nat} (h : Laid w lo pss gs k) {p : Addr} (hp : p.block = lo) (u : Value) : Laid (w.setCell p u) lo pss gs k := fun j hj =>
  ⟨(h j hj).1, Nat.lt_of_lt_of_le (h j hj).2.1 (sizeSet _ _ _), (h j hj).2.2.1, (h j hj).2.2.2.keep (Below.heap_setCell w p u _ (fun e => by have := (h j hj).1; omega))⟩
/-- What a copy is. -/
def ToSS (n : Nat) (pss : List (List Int)) (w : World) (e : Ending) (w' : World) : Prop := ∃ gs, e = .returned (.slice (some ⟨w.heap.size, 0, none⟩) n n) ∧ Blk w' w.heap.size 44 (rowCells pss gs n n).toArray ∧ Laid w' w.heap.size pss gs n ∧ Below w.heap.size w w'
theorem laid_sl2 {w : World} {lo n : Nat} {pss : List (List Int)} {gs : Nat → Nat} (hk : Blk w lo 44 (rowCells pss gs n n).toArray) (hl : Laid w lo pss gs n) (hn : pss.length = n) (hm : ∀ j, j < n → (pss.getD j []).length ≤ 9223372036854775807) : Sl2 w w.heap.size (some ⟨lo, 0, none⟩) n pss :=
  ⟨hn, fun h0 => ⟨lo, 0, rfl, hk.lt, fun j hj => ⟨some ⟨gs j, 0, none⟩, (pss.getD j []).length, (pss.getD j []).length, by rw [Nat.zero_add, hk.cell, List.getElem?_toArray, rowCells_at _ _ hj, if_pos hj], (hl j hj).2.2.2.sl, hm j hj⟩⟩⟩
theorem info_lists : (Try.prog.info? 44).map (fun i => (i.zero, i.size, i.bytes)) = some (some (.slice none 0 0), 1, 24) := by kernel_rfl
theorem rowCells_zero (pss : List (List Int)) (gs : Nat → Nat) (n : Nat) : madeCells #[.slice none 0 0] n = (rowCells pss gs n 0).toArray := by
  rw [made_one]
  congr 1
  apply List.ext_getElem?
  intro j
  rcases Nat.lt_or_ge j n with hj | hj
  · rw [rowCells_at _ _ hj, List.getElem?_replicate, if_pos hj]; simp
  · rw [List.getElem?_eq_none (by simpa using hj), List.getElem?_eq_none (by simpa [rowCells] using hj)]
/-- Only blocks between lo and hi differ, and there may be new ones. -/
structure Within (lo hi : Nat) (w w' : World) : Prop where
  os : w'.os = w.os
  tape : w'.tape = w.tape
  output : w'.output = w.output
  size : w.heap.size ≤ w'.heap.size
  block : ∀ b, b < w.heap.size → ¬ (lo < b ∧ b < hi) → w'.heap[b]? = w.heap[b]?
theorem Within.refl (lo hi : Nat) (w : World) : Within lo hi w w := ⟨rfl, rfl, rfl, Nat.le_refl _, fun _ _ _ => rfl⟩
theorem Within.step {lo hi g : Nat} {w w' w'' : World} (h : Within lo hi w w') (hg : w'.grownBy w'' (some g)) (h1 : lo < g) (h2 : g < hi) : Within lo hi w w'' :=
  ⟨hg.os.trans h.os, hg.tape.trans h.tape, hg.output.trans h.output, Nat.le_trans h.size hg.size, fun b hb hn => (hg.block b (Nat.lt_of_lt_of_le hb h.size) (by intro e; injection e with e; subst e; exact hn ⟨h1, h2⟩)).trans (h.block b hb hn)⟩
theorem Within.below {lo hi B : Nat} {a w w' : World} (h : Below B a w) (hw : Within lo hi w w') (hB : B ≤ lo) (hB2 : B ≤ w.heap.size) : Below B a w' :=
  ⟨hw.os.trans h.os, hw.tape.trans h.tape, hw.output.trans h.output, Nat.le_trans h.size hw.size, fun k hk => (hw.block k (by omega) (by omega)).trans (h.block k hk)⟩
theorem Own.within {lo hi : Nat} {w w' : World} {g : Nat} {t : TypeId} {m : Nat} {A : Option Addr} {n : Nat} {zs : List Int} (h : Own w g t m A n zs) (hw : Within lo hi w w') (hg : g ≤ lo ∨ hi ≤ g) : Own w' g t m A n zs :=
  ⟨h.len, fun hn => by
    obtain ⟨e, rest, hb⟩ := h.blk hn
    exact ⟨e, rest, (hw.block g hb.lt (by omega)).trans hb⟩⟩
end Go.Proofs.Ytpcenpedbdenmaa
