/- Slices of slices of numbers: copies, comparisons, marks. Conditions: lengths below 2^20. -/
import Derived.Test.YtdndhbgompmmeaaLists
import Derived.Test.YtdndhbgompmmeaaInt64S
import Derived.Test.YtdndhbgompmmeaaRules
namespace Go.Proofs.Ytdndhbgompmmeaa
set_option linter.unusedSimpArgs false
set_option linter.unusedVariables false
open Go.RowKit Go.WideShapes Go.ChangeShapes Go.Deep

theorem boxed2 (w : World) (o : Obj) : Below w.heap.size w (w.alloc o) := Below.alloc (Below.refl _ _) (Nat.le_refl _) o
/-- The slice value holds slices that read as the lists. -/
structure Sl2 (w : World) (B : Nat) (A : Option Addr) (n : Nat) (pss : List (List Int)) : Prop where
  len : pss.length = n
  at_ : 0 < n → ∃ b off, A = some ⟨b, off, none⟩ ∧ b < B ∧ ∀ j, j < n → ∃ (A' : Option Addr) (m c : Nat), w.cell? ⟨b, off + j, none⟩ = some (.slice A' m c) ∧ Sl w B 1 A' m ((pss.getD j []).map (Value.int .i64)) ∧ m ≤ 9223372036854775807
section
variable {w w' : World} {B B' n : Nat} {A : Option Addr} {pss : List (List Int)}
theorem Sl2.keep (h : Sl2 w B A n pss) (hk : ∀ b o, b < B → w'.cell? ⟨b, o, none⟩ = w.cell? ⟨b, o, none⟩) : Sl2 w' B A n pss :=
  ⟨h.1, fun hn => by
    obtain ⟨b, off, e, hb, hc⟩ := h.2 hn
    refine ⟨b, off, e, hb, fun j hj => ?_⟩
    obtain ⟨A', m, c, h1, h2, h3⟩ := hc j hj
    exact ⟨A', m, c, (hk _ _ hb).trans h1, h2.keep hk, h3⟩⟩
theorem Sl2.mono (h : Sl2 w B A n pss) (hB : B ≤ B') : Sl2 w B' A n pss :=
  ⟨h.1, fun hn => by
    obtain ⟨b, off, e, hb, hc⟩ := h.2 hn
    refine ⟨b, off, e, Nat.lt_of_lt_of_le hb hB, fun j hj => ?_⟩
    obtain ⟨A', m, c, h1, h2, h3⟩ := hc j hj
    exact ⟨A', m, c, h1, h2.mono hB, h3⟩⟩
theorem Sl2.below (h : Sl2 w B A n pss) (hb : Below B w w') : Sl2 w' B A n pss := h.keep fun _ _ hp => hb.cell hp
theorem Sl2.later (h : Sl2 w w.heap.size A n pss) (hb : Below w.heap.size w w') : Sl2 w' w'.heap.size A n pss := (h.below hb).mono hb.size
theorem Sl2.row (h : Sl2 w B A n pss) {k : Nat} (hk : k < n) : ∃ b off l A' m c, A = some ⟨b, off, none⟩ ∧ b < B ∧ Hid (pss.getD k [] = l) ∧ w.cell? ⟨b, off + k, none⟩ = some (.slice A' m c) ∧ Sl w B 1 A' m (l.map (Value.int .i64)) ∧ m ≤ 9223372036854775807 := by
  obtain ⟨b, off, e, hb, hc⟩ := h.2 (by omega)
  obtain ⟨A', m, c, h1, h2, h3⟩ := hc k hk
  exact ⟨b, off, _, A', m, c, e, hb, rfl, h1, h2, h3⟩
end
section
variable {H : Type} {enc : TypeId × Value → H} {P : Program} {w : World} {spare : Nat → Bool} {held : Bool}
theorem rows_ints {e e' : TypeId} {n : Nat} {A : Option Addr} {xs : List Value} (he : P.underlying e = some (.slice e')) (hC : P.cellsOf e' = 1) (hi : P.underlying e' = some (.int .i64)) (hs : Sl w w.heap.size 1 A n xs)
    (h : ∀ i, i < n → ∃ (f : Nat) (y : DataW H × List MemPlace), DataW.trod enc P w 0 spare held f e ((xs.drop (i * 1)).take 1) = some y) : ∃ pss, Sl2 w w.heap.size A n pss := by
  have hl : xs.length = n := by have := hs.1; omega
  have hx : ∀ i, i < n → ∃ (l : List Int) (A' : Option Addr) (m c : Nat), xs[i]? = some (.slice A' m c) ∧ Sl w w.heap.size 1 A' m (l.map (Value.int .i64)) ∧ m ≤ 9223372036854775807 := by
    intro i hin
    obtain ⟨f, y, hy⟩ := h i hin
    have e1 : (xs.drop (i * 1)).take 1 = [xs[i]] := by
      rw [Nat.mul_one, List.drop_eq_getElem_cons (by omega)]; rfl
    rw [e1] at hy
    obtain ⟨A', m, c, ys, hv, hmc, hcm, hsl, hr⟩ := leaf_row he hC (by omega) hy
    obtain ⟨zs, rfl, _⟩ := row_ints hi hsl.1 hr
    exact ⟨zs, A', m, c, by rw [List.getElem?_eq_getElem (by omega), hv], hsl, Nat.le_trans hmc hcm⟩
  let g : Nat → List Int := fun i => if q : i < n then Classical.choose (hx i q) else []
  refine ⟨(List.range n).map g, by simp, fun hn => ?_⟩
  obtain ⟨b, off, e, hb, hc⟩ := hs.2 hn
  refine ⟨b, off, e, hb, fun j hj => ?_⟩
  obtain ⟨A', m, c, h1, h2, h3⟩ := Classical.choose_spec (hx j hj)
  refine ⟨A', m, c, hc j _ h1, ?_, h3⟩
  have e2 : ((List.range n).map g).getD j [] = Classical.choose (hx j hj) := by
    rw [List.getD_eq_getElem?_getD, List.getElem?_map, List.getElem?_range hj]
    simp only [Option.map_some, Option.getD_some, g, dif_pos hj]
  rw [e2]
  exact h2
end
/-- How many numbers the first k lists hold. -/
def sumLen (pss : List (List Int)) : Nat → Nat
  | 0 => 0
  | k + 1 => sumLen pss k + (pss.getD k []).length
theorem sumLen_mono (pss : List (List Int)) {j k : Nat} (h : j ≤ k) : sumLen pss j ≤ sumLen pss k := by
  induction h with
  | refl => exact Nat.le_refl _
  | step _ ih => exact Nat.le_trans ih (Nat.le_add_right _ _)
theorem sumLen_each (pss : List (List Int)) {j k : Nat} (h : j < k) : (pss.getD j []).length ≤ sumLen pss k :=
  Nat.le_trans (Nat.le_add_left _ _) (sumLen_mono pss (j := j + 1) h)
def SzR (pss : List (List Int)) (n : Nat) (left : Int) : Int := if ((n + sumLen pss n : Nat) : Int) ≤ left then left - ((n + sumLen pss n : Nat) : Int) else -1
set_option maxHeartbeats 1000000 in
theorem szInt64SS_any (A : Option Addr) (n c : Nat) (pss : List (List Int)) (left : Int) (w : World) (hs : Sl2 w w.heap.size A n pss) (hn : n ≤ 9223372036854775807) (h1 : left ≤ 1048576) (h0 : 0 ≤ left) :
    Calls Try.prog 14 #[.slice A n c, .int .i64 left] w fun e w' => e = .returned (.int .i64 (SzR pss n left)) ∧ w = w' := by
  obtain ⟨r, hr⟩ : ∃ r, SzR pss n left = r := ⟨_, rfl⟩
  have HR := Lib.hid hr
  clear hr
  rw [HR.out]
  by_cases hb : (n : Int) ≤ left
  case neg =>
    have hq : Hid (r = -1) := by unfold Hid; rw [← HR.out, SzR, if_neg (by omega)]
    go_enter Try.func14, Try.ntmps14
    go_wp2
    go_ret
    exact ⟨by rw [hq.out]; rfl, rfl⟩
  case pos =>
    go_enter Try.func14, Try.ntmps14
    go_wp2
    go_loop [1, 5] (fun l i => ∃ k : Nat, k ≤ n ∧ i = .int .i64 k ∧ l = .int .i64 (left - (n : Nat) - (sumLen pss k : Nat)) ∧ Hid (((n + sumLen pss k : Nat) : Int) ≤ left)) (fun _ i => n - (intOf i).toNat)
    case atStart => exact ⟨0, Nat.zero_le _, rfl, by simp [sumLen], by unfold Hid; simp [sumLen]; exact hb⟩
    case round =>
      obtain ⟨k, hk, rfl, rfl, HK⟩ := hrel
      by_cases hlt : k < n
      · obtain ⟨b, off, l, A', m, c', rfl, hb', HL, hc, hsl, hm⟩ := hs.row hlt
        have hlm : Hid (sumLen pss (k + 1) = sumLen pss k + m) := by unfold Hid; rw [sumLen, HL.out, hsl.ints]
        have hsm := Lib.hid (sumLen_mono pss (j := k + 1) hlt)
        obtain ⟨u, hu⟩ : ∃ u, sumLen pss k = u := ⟨_, rfl⟩
        rw [hu]
        have HU := Lib.hid hu
        have hku := HK.out
        rw [hu] at hku
        clear hu
        by_cases hov : (m : Int) ≤ left - (n : Nat) - (u : Nat)
        · go_wp2_with (go_at_call 55; refine (szInt64S_le A' m c' (left - (n : Nat) - (u : Nat)) _ hov (by omega)).mono ?_; rintro e w_ ⟨rfl, rfl⟩)
          go_round
          case rel =>
            refine ⟨k + 1, by omega, by go_num, ?_, ?_⟩
            · rw [hlm.out, HU.out]; go_num
            · unfold Hid; rw [hlm.out, HU.out]; omega
          case measure => first | (simp [intOf]; done) | (simp [intOf]; omega)
        · have hq : Hid (r = -1) := by
            unfold Hid
            have h5 := hsm.out
            rw [hlm.out, HU.out] at h5
            rw [← HR.out, SzR, if_neg (by omega)]
          go_wp2_with (go_at_call 55; refine (szInt64S_gt A' m c' (left - (n : Nat) - (u : Nat)) _ (by omega) (by omega) hm).mono ?_; rintro e w_ ⟨rfl, rfl⟩)
          go_ret
          exact ⟨by rw [hq.out]; rfl, rfl⟩
      · obtain rfl : k = n := by omega
        go_wp2
        go_ret
        have hk2 := HK.out
        exact ⟨by rw [← HR.out, SzR, if_pos hk2, show left - ((k + sumLen pss k : Nat) : Int) = left - (k : Nat) - (sumLen pss k : Nat) from by omega]; rfl, rfl⟩
/-- The cells of an outer list of which the first lists are laid. -/
def rowCells (pss : List (List Int)) (gs : Nat → Nat) (n k : Nat) : List Value := (List.range n).map fun j => if j < k then .slice (some ⟨gs j, 0, none⟩) (pss.getD j []).length (pss.getD j []).length else .slice none 0 0
theorem rowCells_at (pss : List (List Int)) (gs : Nat → Nat) {n k j : Nat} (hj : j < n) : (rowCells pss gs n k)[j]? = some (if j < k then .slice (some ⟨gs j, 0, none⟩) (pss.getD j []).length (pss.getD j []).length else .slice none 0 0) := by
  rw [rowCells, List.getElem?_map, List.getElem?_range hj]; rfl
theorem rowCells_set (pss : List (List Int)) (gs : Nat → Nat) {n k g : Nat} (hk : k < n) : (rowCells pss gs n k).toArray.setIfInBounds k (.slice (some ⟨g, 0, none⟩) (pss.getD k []).length (pss.getD k []).length) = (rowCells pss (fun j => if j = k then g else gs j) n (k + 1)).toArray := by
  rw [List.setIfInBounds_toArray]
  congr 1
  apply List.ext_getElem?
  intro j
  rw [List.getElem?_set]
  rcases Nat.lt_or_ge j n with hj | hj
  · rw [rowCells_at _ _ hj, rowCells_at _ _ hj]
    have hl : k < (rowCells pss gs n k).length := by simpa [rowCells] using hk
    by_cases h : k = j
    · subst h; simp [hl]
    · rw [if_neg h]
      by_cases h2 : j < k
      · simp [h2, show ¬ j = k from fun e => h e.symm, show j < k + 1 from by omega]
      · simp [h2, show ¬ j < k + 1 from by omega]
  · rw [List.getElem?_eq_none (by simpa [rowCells] using hj), List.getElem?_eq_none (by simpa [rowCells] using hj)]
    split
    · rename_i h; subst h; omega
    · rfl
/-- The inner lists of a copy: blocks of their own that hold the lists. -/
def Laid (w : World) (lo : Nat) (pss : List (List Int)) (gs : Nat → Nat) (k : Nat) : Prop := ∀ j, j < k → lo < gs j ∧ gs j < w.heap.size ∧ (∀ i, i < j → gs i < gs j) ∧ Own w (gs j) 2 1 (some ⟨gs j, 0, none⟩) (pss.getD j []).length (pss.getD j [])
theorem Laid.later {w w' : World} {lo k : Nat} {pss : List (List Int)} {gs : Nat → Nat} (h : Laid w lo pss gs k) (hb : Below w.heap.size w w') : Laid w' lo pss gs k := fun j hj => ⟨(h j hj).1, Nat.lt_of_lt_of_le (h j hj).2.1 hb.size, (h j hj).2.2.1, (h j hj).2.2.2.later hb⟩
theorem Laid.set {w : World} {lo k : Nat} {pss : List (List Int)} {gs : Nat → Nat} (h : Laid w lo pss gs k) {p : Addr} (hp : p.block = lo) (u : Value) : Laid (w.setCell p u) lo pss gs k := fun j hj =>
  ⟨(h j hj).1, Nat.lt_of_lt_of_le (h j hj).2.1 (sizeSet _ _ _), (h j hj).2.2.1, (h j hj).2.2.2.keep (Below.heap_setCell w p u _ (fun e => by have := (h j hj).1; omega))⟩
/-- What a copy is. -/
def ToSS (n : Nat) (pss : List (List Int)) (w : World) (e : Ending) (w' : World) : Prop := ∃ gs, e = .returned (.slice (some ⟨w.heap.size, 0, none⟩) n n) ∧ Blk w' w.heap.size 26 (rowCells pss gs n n).toArray ∧ Laid w' w.heap.size pss gs n ∧ Below w.heap.size w w'
theorem laid_sl2 {w : World} {lo n : Nat} {pss : List (List Int)} {gs : Nat → Nat} (hk : Blk w lo 26 (rowCells pss gs n n).toArray) (hl : Laid w lo pss gs n) (hn : pss.length = n) (hm : ∀ j, j < n → (pss.getD j []).length ≤ 9223372036854775807) : Sl2 w w.heap.size (some ⟨lo, 0, none⟩) n pss :=
  ⟨hn, fun h0 => ⟨lo, 0, rfl, hk.lt, fun j hj => ⟨some ⟨gs j, 0, none⟩, (pss.getD j []).length, (pss.getD j []).length, by rw [Nat.zero_add, hk.cell, List.getElem?_toArray, rowCells_at _ _ hj, if_pos hj], (hl j hj).2.2.2.sl, hm j hj⟩⟩⟩
theorem info_lists : (Try.prog.info? 26).map (fun i => (i.zero, i.size, i.bytes)) = some (some (.slice none 0 0), 1, 24) := by kernel_rfl
theorem rowCells_zero (pss : List (List Int)) (gs : Nat → Nat) (n : Nat) : madeCells #[.slice none 0 0] n = (rowCells pss gs n 0).toArray := by
  rw [made_one]
  congr 1
  apply List.ext_getElem?
  intro j
  rcases Nat.lt_or_ge j n with hj | hj
  · rw [rowCells_at _ _ hj, List.getElem?_replicate, if_pos hj]; simp
  · rw [List.getElem?_eq_none (by simpa using hj), List.getElem?_eq_none (by simpa [rowCells] using hj)]
set_option maxHeartbeats 1000000 in
theorem toInt64SS_any (A : Option Addr) (n c : Nat) (pss : List (List Int)) (w : World) (hs : Sl2 w w.heap.size A n pss) (hn : n + sumLen pss n ≤ 1048576) :
    Calls Try.prog 16 #[.slice A n c] w (ToSS n pss w) := by
  obtain ⟨i0, hi, hz0, hz1, hz2⟩ := info_parts info_lists
  have hmk := fun W => run_makeN (P := Try.prog) 24 26 i0 (.slice none 0 0) Try.underlying24 hi hz0 .i64 .i64 n n (Nat.le_refl _) (by rw [hz2]; omega) (by omega) W
  rw [hz1] at hmk
  clear hi hz0 hz1 hz2
  go_enter Try.func16, Try.ntmps16
  go_wp2
  go_loopw [4] (fun i wr => ∃ (k : Nat) (gs : Nat → Nat), k ≤ n ∧ i = .int .i64 k ∧ Blk wr w.heap.size 26 (rowCells pss gs n k).toArray ∧ Laid wr w.heap.size pss gs k ∧ Below w.heap.size w wr) (fun i _ => n - (intOf i).toNat)
  case atStart => exact ⟨0, fun _ => 0, Nat.zero_le _, rfl, by rw [← rowCells_zero]; exact Blk.new _ _ _, fun j hj => absurd hj (by omega), by (repeat' (first | (with_reducible exact Below.refl _ _) | (with_reducible assumption) | (with_reducible refine Below.alloc ?_ ?_ _) | (with_reducible refine Below.drew ?_) | (with_reducible refine belowDrewN ?_ _) | (with_reducible refine Below.setCell ?_ ?_ _) | (with_reducible refine Below.via (by with_reducible assumption) ?_ ?_) | (with_reducible exact Below.size (by with_reducible assumption)) | go_size | (with_reducible refine Nat.le_trans ?_ (Below.size (by with_reducible assumption))) | (with_reducible refine Nat.le_trans ?_ (sizeAlloc _ _)) | (with_reducible refine Nat.le_trans ?_ (sizeSet _ _ _)) | (with_reducible refine Nat.le_trans ?_ (sizeDrew _))))⟩
  case round =>
    obtain ⟨k, gs, hk, rfl, hblk, hlaid, hbl⟩ := hrel
    by_cases hlt : k < n
    · obtain ⟨b, off, l, A', m, c', rfl, hb, HL, hc, hsl, hm⟩ := (hs.below hbl).row hlt
      have hml : Hid ((pss.getD k []).length = m) := by unfold Hid; rw [HL.out, hsl.ints]
      have hm2 : m ≤ 1048576 := by have h5 := sumLen_each pss hlt; rw [hml.out] at h5; omega
      have hs2 := Lib.hid (hsl.mono hbl.size)
      have hbs := hbl.size
      have hlt0 := hblk.lt
      have HB := Lib.hid hblk
      have HD := Lib.hid hlaid
      clear hblk hlaid hsl hm
      go_wp2_with fail
      refine (toInt64S_any A' m c' l _ hs2.out hm2).mono ?_
      rintro e w1 ⟨rfl, rfl⟩
      have hk1 := HB.out.later (boxed2 _ (.cells (l.map (Value.int .i64)).toArray 2))
      have hc1 : (wr.alloc (.cells (l.map (Value.int .i64)).toArray 2)).cell? ⟨w.heap.size, k, none⟩ = some (.slice none 0 0) := by
        rw [hk1.cell, List.getElem?_toArray, rowCells_at _ _ hlt, if_neg (by omega)]
      have hf1 := hk1.free k
      clear hk1
      go_wp2_with fail
      go_roundw
      case rel =>
        refine ⟨k + 1, fun j => if j = k then wr.heap.size else gs j, by omega, by go_num, ?_, ?_, by (repeat' (first | (with_reducible exact Below.refl _ _) | (with_reducible assumption) | (with_reducible refine Below.alloc ?_ ?_ _) | (with_reducible refine Below.drew ?_) | (with_reducible refine belowDrewN ?_ _) | (with_reducible refine Below.setCell ?_ ?_ _) | (with_reducible refine Below.via (by with_reducible assumption) ?_ ?_) | (with_reducible exact Below.size (by with_reducible assumption)) | go_size | (with_reducible refine Nat.le_trans ?_ (Below.size (by with_reducible assumption))) | (with_reducible refine Nat.le_trans ?_ (sizeAlloc _ _)) | (with_reducible refine Nat.le_trans ?_ (sizeSet _ _ _)) | (with_reducible refine Nat.le_trans ?_ (sizeDrew _))))⟩
        · rw [← rowCells_set pss gs hlt, hml.out]
          exact (HB.out.set k _).later (boxed2 _ _)
        · intro j hj
          have hne : ∀ i, i < k → (if i = k then wr.heap.size else gs i) = gs i := fun i hi => if_neg (by omega)
          by_cases hjk : j = k
          · subst hjk
            refine ⟨?_, ?_, fun i hi => ?_, ?_⟩
            · show w.heap.size < (if j = j then wr.heap.size else gs j)
              rw [if_pos rfl]; exact hlt0
            · show (if j = j then wr.heap.size else gs j) < _
              rw [if_pos rfl]; simp
            · show (if i = j then wr.heap.size else gs i) < (if j = j then wr.heap.size else gs j)
              rw [hne i hi, if_pos rfl]; exact (HD.out i hi).2.1
            · show Own _ (if j = j then wr.heap.size else gs j) _ 1 (some ⟨if j = j then wr.heap.size else gs j, 0, none⟩) _ _
              rw [if_pos rfl, HL.out]
              exact ⟨by omega, fun _ => ⟨rfl, [], by rw [List.append_nil]; exact Blk.new' (by simp)⟩⟩
          · have hjl : j < k := by omega
            have h5 := ((HD.out.set (p := ⟨w.heap.size, k, none⟩) rfl (.slice (some ⟨wr.heap.size, 0, none⟩) m m)).later (boxed2 _ (.cells (l.map (Value.int .i64)).toArray 2))) j hjl
            refine ⟨?_, ?_, fun i hi => ?_, ?_⟩
            · show w.heap.size < (if j = k then wr.heap.size else gs j)
              rw [hne j hjl]; exact h5.1
            · show (if j = k then wr.heap.size else gs j) < _
              rw [hne j hjl]; exact h5.2.1
            · show (if i = k then wr.heap.size else gs i) < (if j = k then wr.heap.size else gs j)
              rw [hne i (by omega), hne j hjl]; exact h5.2.2.1 i hi
            · show Own _ (if j = k then wr.heap.size else gs j) _ 1 (some ⟨if j = k then wr.heap.size else gs j, 0, none⟩) _ _
              rw [hne j hjl]; exact h5.2.2.2
      case measure => first | (simp [intOf]; done) | (simp [intOf]; omega)
    · obtain rfl : k = n := by omega
      go_wp2
      go_ret
      exact ⟨gs, rfl, hblk, hlaid, hbl⟩
/-- Only blocks between lo and hi differ, and there may be new ones. -/
structure Within (lo hi : Nat) (w w' : World) : Prop where
  os : w'.os = w.os
  tape : w'.tape = w.tape
  output : w'.output = w.output
  size : w.heap.size ≤ w'.heap.size
  block : ∀ b, b < w.heap.size → ¬ (lo < b ∧ b < hi) → w'.heap[b]? = w.heap[b]?
theorem Within.refl (lo hi : Nat) (w : World) : Within lo hi w w := ⟨rfl, rfl, rfl, Nat.le_refl _, fun _ _ _ => rfl⟩
theorem Within.step {lo hi g : Nat} {w w' w'' : World} (h : Within lo hi w w') (hg : w'.grownBy w'' (some g)) (h1 : lo < g) (h2 : g < hi) : Within lo hi w w'' :=
  ⟨hg.os.trans h.os, hg.tape.trans h.tape, hg.output.trans h.output, Nat.le_trans h.size hg.size, fun b hb hn => (hg.block b (Nat.lt_of_lt_of_le hb h.size) (by intro e; injection e with e; subst e; exact hn ⟨h1, h2⟩)).trans (h.block b hb hn)⟩
theorem Within.below {lo hi B : Nat} {a w w' : World} (h : Below B a w) (hw : Within lo hi w w') (hB : B ≤ lo) (hB2 : B ≤ w.heap.size) : Below B a w' :=
  ⟨hw.os.trans h.os, hw.tape.trans h.tape, hw.output.trans h.output, Nat.le_trans h.size hw.size, fun k hk => (hw.block k (by omega) (by omega)).trans (h.block k hk)⟩
theorem Own.within {lo hi : Nat} {w w' : World} {g : Nat} {t : TypeId} {m : Nat} {A : Option Addr} {n : Nat} {zs : List Int} (h : Own w g t m A n zs) (hw : Within lo hi w w') (hg : g ≤ lo ∨ hi ≤ g) : Own w' g t m A n zs :=
  ⟨h.len, fun hn => by
    obtain ⟨e, rest, hb⟩ := h.blk hn
    exact ⟨e, rest, (hw.block g hb.lt (by omega)).trans hb⟩⟩
/-- Inner lists that may be marked. -/
def Marked (w : World) (lo hi : Nat) (pss : List (List Int)) (gs : Nat → Nat) (n : Nat) : Prop := ∀ j, j < n → lo < gs j ∧ gs j < hi ∧ (∀ i, i < j → gs i < gs j) ∧ ∃ zs, Own w (gs j) 2 1 (some ⟨gs j, 0, none⟩) (pss.getD j []).length zs
theorem Laid.marked {w : World} {lo n : Nat} {pss : List (List Int)} {gs : Nat → Nat} (h : Laid w lo pss gs n) : Marked w lo w.heap.size pss gs n := fun j hj => ⟨(h j hj).1, (h j hj).2.1, (h j hj).2.2.1, _, (h j hj).2.2.2⟩
theorem Marked.later {w w' : World} {lo hi n : Nat} {pss : List (List Int)} {gs : Nat → Nat} (h : Marked w lo hi pss gs n) (hb : Below w.heap.size w w') : Marked w' lo hi pss gs n := fun j hj => by
  obtain ⟨a, b, c, zs, d⟩ := h j hj
  exact ⟨a, b, c, zs, d.later hb⟩
set_option maxHeartbeats 1000000 in
theorem markInt64SS_any (n c lo hi : Nat) (pss : List (List Int)) (gs : Nat → Nat) (k0 : Int) (w : World) (hk : Blk w lo 26 (rowCells pss gs n n).toArray) (hm : Marked w lo hi pss gs n) (hn : n + sumLen pss n ≤ 1048576) (h0 : 0 ≤ k0) (h1 : k0 ≤ 1048576) :
    Calls Try.prog 20 #[.slice (some ⟨lo, 0, none⟩) n c, .int .i64 k0] w fun e w' => e = .returned (.int .i64 (k0 + (sumLen pss n : Nat))) ∧ Within lo hi w w' := by
  have HK := Lib.hid hk
  have HM := Lib.hid hm
  clear hk hm
  go_enter Try.func20, Try.ntmps20
  go_wp2
  go_loopw [1, 5] (fun kk i wr => ∃ k : Nat, k ≤ n ∧ i = .int .i64 k ∧ kk = .int .i64 (k0 + (sumLen pss k : Nat)) ∧ Blk wr lo 26 (rowCells pss gs n n).toArray ∧ Marked wr lo hi pss gs n ∧ Within lo hi w wr) (fun _ i _ => n - (intOf i).toNat)
  case atStart => exact ⟨0, Nat.zero_le _, rfl, by simp [sumLen], HK.out, HM.out, Within.refl _ _ _⟩
  case round =>
    obtain ⟨k, hk, rfl, rfl, hblk, hmk, hw⟩ := hrel
    by_cases hlt : k < n
    · have hlm := sumLen_mono pss hlt
      have hlm0 := sumLen_mono pss (Nat.le_of_lt hlt)
      obtain ⟨m, hme⟩ : ∃ m, (pss.getD k []).length = m := ⟨_, rfl⟩
      have hc : wr.cell? ⟨lo, k, none⟩ = some (.slice (some ⟨gs k, 0, none⟩) m m) := by rw [hblk.cell, List.getElem?_toArray, rowCells_at _ _ hlt, if_pos hlt, hme]
      obtain ⟨m1, m2, m3, zs, ho⟩ := hmk k hlt
      rw [hme] at ho
      have hsu : sumLen pss (k + 1) = sumLen pss k + m := by rw [sumLen, hme]
      obtain ⟨u, hu⟩ : ∃ u, sumLen pss k = u := ⟨_, rfl⟩
      rw [hu] at hsu hlm0 ⊢
      rw [hsu] at hlm
      have HS := Lib.hid hsu
      have HB := Lib.hid hblk
      have HD := Lib.hid hmk
      have HO := Lib.hid ho
      have HE := Lib.hid hme
      have hll := hblk.lt
      clear hblk hmk ho hme hu hsu m3
      go_wp2_with fail
      refine (markInt64S_any (some ⟨gs k, 0, none⟩) m m (gs k) zs (k0 + (u : Nat)) _ HO.out (by omega) (by omega) (by omega)).mono ?_
      rintro e w1 ⟨rfl, ho1, hg1⟩
      have HG := Lib.hid hg1
      have HO1 := Lib.hid ho1
      clear hg1 ho1
      go_wp2_with fail
      go_roundw
      case rel =>
        refine ⟨k + 1, by omega, by go_num, by rw [HS.out]; go_num, ?_, ?_, hw.step HG.out m1 m2⟩
        · exact (HG.out.block lo hll (by intro e; injection e with e; omega)).trans HB.out
        · intro j hj
          obtain ⟨a, b, c, ys, d⟩ := HD.out j hj
          rcases Nat.lt_trichotomy j k with q | q | q
          · have h6 := (HD.out k hlt).2.2.1 j q
            exact ⟨a, b, c, ys, d.other HG.out (by omega)⟩
          · subst q
            exact ⟨a, b, c, _, by rw [HE.out]; exact HO1.out⟩
          · have h6 := c k q
            exact ⟨a, b, c, ys, d.other HG.out (by omega)⟩
      case measure => first | (simp [intOf]; done) | (simp [intOf]; omega)
    · obtain rfl : k = n := by omega
      go_wp2
      go_ret
      exact ⟨rfl, hw⟩
set_option maxHeartbeats 400000 in
theorem eqInt64S_quiet (A A' : Option Addr) (n c c' : Nat) (zs : List Int) (w : World) (hs : Sl w w.heap.size 1 A n (zs.map (Value.int .i64))) (hs' : Sl w w.heap.size 1 A' n (zs.map (Value.int .i64))) (hn : n ≤ 9223372036854775807) :
    Calls Try.prog 18 #[.slice A n c, .slice A' n c'] w fun e w' => e = .returned (.bool true) ∧ ∃ m, w' = w.drewN m := by
  have HL := Lib.hid hs.ints
  go_enter Try.func18, Try.ntmps18
  go_wp2
  go_loopw [5] (fun i wr => ∃ k : Nat, k ≤ n ∧ i = .int .i64 k ∧ ∃ m, wr = w.drewN m) (fun i _ => n - (intOf i).toNat)
  case atStart => exact ⟨0, Nat.zero_le _, rfl, 0, rfl⟩
  case round =>
    obtain ⟨k, hk, rfl, hm⟩ := hrel
    have HW := Lib.hid hm
    have hsr : Sl wr w.heap.size 1 A n (zs.map (Value.int .i64)) := by obtain ⟨m, rfl⟩ := hm; exact hs.drewN m
    have hsr' : Sl wr w.heap.size 1 A' n (zs.map (Value.int .i64)) := by obtain ⟨m, rfl⟩ := hm; exact hs'.drewN m
    clear hm
    by_cases hlt : k < n
    · obtain ⟨b, off, z, rfl, hb, HZ, hc⟩ := hsr.int hlt
      obtain ⟨b', off', z', rfl, hb', HZ', hc'⟩ := hsr'.int hlt
      obtain rfl : z = z' := HZ.out.symm.trans HZ'.out
      go_wp2_with fail
      go_quiet (fail)
      go_wp2_with fail
      go_roundw
      case rel =>
        refine ⟨k + 1, by omega, by go_num, ?_⟩
        obtain ⟨m, e⟩ := HW.out; exact ⟨m + _, by rw [e, World.drewN_drewN]⟩
      case measure => simp [intOf]; omega
    · obtain rfl : k = n := by omega
      go_wp2
      go_ret
      obtain ⟨m, ew⟩ := HW.out; first | exact ⟨rfl, m, ew⟩ | exact ⟨rfl, m + _, by rw [ew, World.drewN_drewN]⟩
set_option maxHeartbeats 1000000 in
theorem eqInt64SS_same (A A' : Option Addr) (n c c' : Nat) (pss : List (List Int)) (w : World) (hs : Sl2 w w.heap.size A n pss) (hs' : Sl2 w w.heap.size A' n pss) (hn : n ≤ 9223372036854775807) :
    Calls Try.prog 19 #[.slice A n c, .slice A' n c'] w fun e w' => e = .returned (.bool true) ∧ ∃ m, w' = w.drewN m := by
  go_enter Try.func19, Try.ntmps19
  go_wp2
  go_loopw [5] (fun i wr => ∃ k : Nat, k ≤ n ∧ i = .int .i64 k ∧ ∃ m, wr = w.drewN m) (fun i _ => n - (intOf i).toNat)
  case atStart => exact ⟨0, Nat.zero_le _, rfl, 0, rfl⟩
  case round =>
    obtain ⟨k, hk, rfl, hm⟩ := hrel
    have HW := Lib.hid hm
    have hz : wr.heap.size = w.heap.size := by obtain ⟨m, rfl⟩ := hm; rfl
    have hsr : Sl2 wr wr.heap.size A n pss := by rw [hz]; obtain ⟨m, rfl⟩ := hm; exact hs.keep (fun _ _ _ => rfl)
    have hsr' : Sl2 wr wr.heap.size A' n pss := by rw [hz]; obtain ⟨m, rfl⟩ := hm; exact hs'.keep (fun _ _ _ => rfl)
    clear hm
    by_cases hlt : k < n
    · obtain ⟨b, off, l, B1, m1, c1, rfl, hb, HL, hc, hq, hm1⟩ := hsr.row hlt
      obtain ⟨b', off', l', B2, m2, c2, rfl, hb', HL', hc', hq', hm2⟩ := hsr'.row hlt
      obtain rfl : l = l' := HL.out.symm.trans HL'.out
      obtain rfl : m1 = m2 := hq.ints.symm.trans hq'.ints
      have hQ := Lib.hid hq
      have hQ' := Lib.hid hq'
      clear hq hq'
      go_wp2_with fail
      go_quiet ((go_at_call 18; (with_reducible exact Calls.quiet_of (eqInt64S_quiet B1 B2 m1 c1 c2 l _ (hQ.out.drewN _) (hQ'.out.drewN _) hm1))))
      go_wp2_with fail
      go_roundw
      case rel =>
        refine ⟨k + 1, by omega, by go_num, ?_⟩
        obtain ⟨m, e⟩ := HW.out; exact ⟨m + _, by rw [e, World.drewN_drewN]⟩
      case measure => simp [intOf]; omega
    · obtain rfl : k = n := by omega
      go_wp2
      go_ret
      obtain ⟨m, ew⟩ := HW.out; first | exact ⟨rfl, m, ew⟩ | exact ⟨rfl, m + _, by rw [ew, World.drewN_drewN]⟩
end Go.Proofs.Ytdndhbgompmmeaa
