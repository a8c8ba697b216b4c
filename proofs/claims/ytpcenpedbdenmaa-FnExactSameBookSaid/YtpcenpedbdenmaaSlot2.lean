/- Slots copied and compared; memories. Conditions: lengths below 2^20. -/
import Derived.Test.YtpcenpedbdenmaaSlot1
import Derived.Test.YtpcenpedbdenmaaMem1
namespace Go.Proofs.Ytpcenpedbdenmaa
set_option linter.unusedSimpArgs false
set_option linter.unusedVariables false
open Go.RowKit Go.WideShapes Go.ChangeShapes Go.Deep

set_option maxHeartbeats 1000000 in
theorem toSlot_any (u : Bool) (A : Option Addr) (m c : Nat) (p d v b : Int) (ps : List Int) (w : World) (hs : Sl w w.heap.size 1 A m (ps.map (Value.int .i64))) (hm : m ≤ 1048576) :
    Calls Try.prog 77 #[.agg #[.bool u, .slice A m c, .int .i64 p, .int .i64 d, .int .i64 v, .int .i64 b]] w fun e w' => ∃ g, e = .returned (.agg #[.bool u, .slice (some ⟨g, 0, none⟩) m m, .int .i64 p, .int .i64 d, .int .i64 v, .int .i64 b]) ∧ w.heap.size ≤ g ∧ g < w'.heap.size ∧ Own w' g 2 1 (some ⟨g, 0, none⟩) m ps ∧ Below w.heap.size w w' := by
  have HL := Lib.hid hs.ints
  go_enter Try.func77, Try.ntmps77
  go_wp2_with fail
  refine (toInt64S_any A m c ps _ (hs.later (by (repeat' (first | (with_reducible exact Below.refl _ _) | (with_reducible assumption) | (with_reducible refine Below.alloc ?_ ?_ _) | (with_reducible refine Below.drew ?_) | (with_reducible refine belowDrewN ?_ _) | (with_reducible refine Below.setCell ?_ ?_ _) | (with_reducible refine Below.via (by with_reducible assumption) ?_ ?_) | (with_reducible refine Below.viaD (by with_reducible assumption) ?_ ?_) | (with_reducible exact Below.size (by with_reducible assumption)) | go_size | (with_reducible refine Nat.le_trans ?_ (Below.size (by with_reducible assumption))) | (with_reducible refine Nat.le_trans ?_ (sizeAlloc _ _)) | (with_reducible refine Nat.le_trans ?_ (sizeSet _ _ _)) | (with_reducible refine Nat.le_trans ?_ (sizeDrew _)))))) hm).mono ?_
  rintro e w1 ⟨rfl, rfl⟩
  go_wp2_with fail
  go_returns
  refine ⟨_, rfl, by (repeat' (first | (with_reducible exact Below.refl _ _) | (with_reducible assumption) | (with_reducible refine Below.alloc ?_ ?_ _) | (with_reducible refine Below.drew ?_) | (with_reducible refine belowDrewN ?_ _) | (with_reducible refine Below.setCell ?_ ?_ _) | (with_reducible refine Below.via (by with_reducible assumption) ?_ ?_) | (with_reducible refine Below.viaD (by with_reducible assumption) ?_ ?_) | (with_reducible exact Below.size (by with_reducible assumption)) | go_size | (with_reducible refine Nat.le_trans ?_ (Below.size (by with_reducible assumption))) | (with_reducible refine Nat.le_trans ?_ (sizeAlloc _ _)) | (with_reducible refine Nat.le_trans ?_ (sizeSet _ _ _)) | (with_reducible refine Nat.le_trans ?_ (sizeDrew _)))), ?_, ?_, by (repeat' (first | (with_reducible exact Below.refl _ _) | (with_reducible assumption) | (with_reducible refine Below.alloc ?_ ?_ _) | (with_reducible refine Below.drew ?_) | (with_reducible refine belowDrewN ?_ _) | (with_reducible refine Below.setCell ?_ ?_ _) | (with_reducible refine Below.via (by with_reducible assumption) ?_ ?_) | (with_reducible refine Below.viaD (by with_reducible assumption) ?_ ?_) | (with_reducible exact Below.size (by with_reducible assumption)) | go_size | (with_reducible refine Nat.le_trans ?_ (Below.size (by with_reducible assumption))) | (with_reducible refine Nat.le_trans ?_ (sizeAlloc _ _)) | (with_reducible refine Nat.le_trans ?_ (sizeSet _ _ _)) | (with_reducible refine Nat.le_trans ?_ (sizeDrew _))))⟩
  · first | (simp; done) | (simp; omega)
  · exact ⟨by have := HL.out; omega, fun _ => ⟨rfl, [], by rw [List.append_nil]; exact Blk.new' (by simp)⟩⟩
/-- A slot's value, by fields. -/
def slotV (s : SlotR) (x : Value) (f : Nat) : Value := if f = 0 then .bool s.u else if f = 1 then x else if f = 2 then .int .i64 s.p else if f = 3 then .int .i64 s.d else if f = 4 then .int .i64 s.v else .int .i64 s.b
def slotF (ss : List SlotR) (gs : Nat → Nat) (k q : Nat) : Value := if q / 6 < k then slotV (ss.getD (q / 6) dS) (.slice (some ⟨gs (q / 6), 0, none⟩) (ss.getD (q / 6) dS).ps.length (ss.getD (q / 6) dS).ps.length) (q % 6) else zS q
/-- The cells of an outer list of which the first slots are laid. -/
def slotCells (ss : List SlotR) (gs : Nat → Nat) (n k : Nat) : List Value := (List.range (n * 6)).map (slotF ss gs k)
theorem slotCells_at (ss : List SlotR) (gs : Nat → Nat) {n k j f : Nat} (hj : j < n) (hf : f < 6) : (slotCells ss gs n k)[j * 6 + f]? = some (if j < k then slotV (ss.getD j dS) (.slice (some ⟨gs j, 0, none⟩) (ss.getD j dS).ps.length (ss.getD j dS).ps.length) f else zS f) := by
  have h1 : (j * 6 + f) / 6 = j := by omega
  have h2 : (j * 6 + f) % 6 = f := by omega
  have h3 : zS (j * 6 + f) = zS f := by rw [zS, zS, h2, Nat.mod_eq_of_lt hf]
  rw [slotCells, List.getElem?_map, List.getElem?_range (by omega)]
  simp only [Option.map_some, slotF, h1, h2, h3]
theorem range_set (N i : Nat) (F : Nat → Value) (u : Value) : ((List.range N).map F).toArray.setIfInBounds i u = ((List.range N).map fun q => if q = i then u else F q).toArray := by
  rw [List.setIfInBounds_toArray]
  congr 1
  apply List.ext_getElem?
  intro j
  rw [List.getElem?_set]
  rcases Nat.lt_or_ge j N with hj | hj
  · rw [List.getElem?_map, List.getElem?_range hj, List.getElem?_map, List.getElem?_range hj]
    by_cases h : i = j
    · subst h; simp [hj]
    · simp [h, show ¬ j = i from fun e => h e.symm]
  · rw [List.getElem?_eq_none (by simpa using hj), List.getElem?_eq_none (by simpa using hj)]
    split
    · rename_i h; subst h
      rw [if_neg (by simp; omega)]
    · rfl
theorem slotCells_set (ss : List SlotR) (gs : Nat → Nat) {n k g m : Nat} {u : Bool} {ps : List Int} {p d v b : Int} (hk : k < n) (hs : ss.getD k dS = ⟨u, ps, p, d, v, b⟩) (hm : ps.length = m) :
    ((((((slotCells ss gs n k).toArray.setIfInBounds (k * 6) (.bool u)).setIfInBounds (k * 6 + 1) (.slice (some ⟨g, 0, none⟩) m m)).setIfInBounds (k * 6 + 2) (.int .i64 p)).setIfInBounds (k * 6 + 3) (.int .i64 d)).setIfInBounds (k * 6 + 4) (.int .i64 v)).setIfInBounds (k * 6 + 5) (.int .i64 b) = (slotCells ss (fun j => if j = k then g else gs j) n (k + 1)).toArray := by
  rw [slotCells, range_set, range_set, range_set, range_set, range_set, range_set, slotCells]
  congr 1
  apply List.map_congr_left
  intro q _
  rcases Nat.lt_trichotomy (q / 6) k with h | h | h
  · rw [if_neg (by omega), if_neg (by omega), if_neg (by omega), if_neg (by omega), if_neg (by omega), if_neg (by omega), slotF, slotF, if_pos h, if_pos (by omega), if_neg (by omega)]
  · have e : q = k * 6 + q % 6 := by omega
    have hr : q % 6 < 6 := Nat.mod_lt _ (by omega)
    rw [slotF, slotF, if_pos (show q / 6 < k + 1 by omega), h, if_pos rfl, hs, hm]
    obtain ⟨r, hr0⟩ : ∃ r, q % 6 = r := ⟨_, rfl⟩
    rw [hr0] at e hr ⊢
    subst e
    match r, hr with
    | 0, _ => simp [slotV]
    | 1, _ => simp [slotV]
    | 2, _ => simp [slotV]
    | 3, _ => simp [slotV]
    | 4, _ => simp [slotV]
    | 5, _ => simp [slotV]
  · rw [if_neg (by omega), if_neg (by omega), if_neg (by omega), if_neg (by omega), if_neg (by omega), if_neg (by omega), slotF, slotF, if_neg (by omega), if_neg (by omega)]
theorem slotCells_zero (ss : List SlotR) (gs : Nat → Nat) (n : Nat) : (zeroS n) = slotCells ss gs n 0 := by
  rw [zeroS, slotCells]
  apply List.map_congr_left
  intro q _
  rw [slotF, if_neg (by omega)]
/-- What a copy is: read in any later world. -/
theorem laid_sls {w : World} {lo n : Nat} {ss : List SlotR} {gs : Nat → Nat} (hk : Blk w lo 81 (slotCells ss gs n n).toArray) (hl : Laid w lo (pssOf ss) gs n) (hn : ss.length = n) (hm : ∀ j, j < n → (ss.getD j dS).ps.length ≤ 9223372036854775807) : Kept lo w (fun w'' => Sls w'' w''.heap.size (some ⟨lo, 0, none⟩) n ss) :=
  fun w'' hz hc => ⟨hn, fun h0 => ⟨lo, 0, rfl, Nat.lt_of_lt_of_le hk.lt hz, fun j hj => by
    have c : ∀ f, f < 6 → w''.cell? ⟨lo, 0 + j * 6 + f, none⟩ = some (slotV (ss.getD j dS) (.slice (some ⟨gs j, 0, none⟩) (ss.getD j dS).ps.length (ss.getD j dS).ps.length) f) := by
      intro f hf
      rw [hc _ _ (Nat.le_refl _) hk.lt, Nat.zero_add, hk.cell, List.getElem?_toArray, slotCells_at _ _ hj hf, if_pos hj]
    have ho := (hl j hj).2.2.2
    have h1 := (hl j hj).1
    have h2 := (hl j hj).2.1
    rw [pssOf_at] at ho
    have hs := ho.sl
    refine ⟨some ⟨gs j, 0, none⟩, _, _, ⟨c 0 (by omega), c 1 (by omega), c 2 (by omega), c 3 (by omega), c 4 (by omega), c 5 (by omega)⟩, ⟨hs.1, fun hm0 => ?_⟩, hm j hj⟩
    obtain ⟨b, off, e, hb, hcc⟩ := hs.2 hm0
    injection e with e
    injection e with e1 e2
    subst e1 e2
    exact ⟨_, _, rfl, Nat.lt_of_lt_of_le hb hz, fun i u hu => (hc _ _ (by omega) h2).trans (hcc i u hu)⟩⟩⟩
def ToSls (n : Nat) (ss : List SlotR) (w : World) (e : Ending) (w' : World) : Prop := ∃ g, e = .returned (.slice (some ⟨g, 0, none⟩) n n) ∧ w.heap.size ≤ g ∧ Kept w.heap.size w' (fun w'' => Sls w'' w''.heap.size (some ⟨g, 0, none⟩) n ss) ∧ Below w.heap.size w w'
set_option maxHeartbeats 2000000 in
theorem toSlotS_any (A : Option Addr) (n c : Nat) (ss : List SlotR) (w : World) (hs : Sls w w.heap.size A n ss) (hn : n + sumLen (pssOf ss) n ≤ 1048576) :
    Calls Try.prog 51 #[.slice A n c] w (ToSls n ss w) := by
  obtain ⟨i0, hi, hz0, hz1, hz2⟩ := info_parts info_Slot
  have hmk := fun W => run_makeN (P := Try.prog) 25 81 i0 (.agg zC) Try.underlying25 hi hz0 .i64 .i64 n n (Nat.le_refl _) (by rw [hz2]; omega) (by omega) W
  rw [hz1, zeroS_made, slotCells_zero ss (fun _ => 0)] at hmk
  clear hi hz0 hz1 hz2
  go_enter Try.func51, Try.ntmps51
  go_wp2
  go_loopw [4] (fun i wr => ∃ (k : Nat) (gs : Nat → Nat), k ≤ n ∧ i = .int .i64 k ∧ Blk wr w.heap.size 81 (slotCells ss gs n k).toArray ∧ Laid wr w.heap.size (pssOf ss) gs k ∧ Below w.heap.size w wr) (fun i _ => n - (intOf i).toNat)
  case atStart => exact ⟨0, fun _ => 0, Nat.zero_le _, rfl, Blk.new _ _ _, fun j hj => absurd hj (by omega), by (repeat' (first | (with_reducible exact Below.refl _ _) | (with_reducible assumption) | (with_reducible refine Below.alloc ?_ ?_ _) | (with_reducible refine Below.drew ?_) | (with_reducible refine belowDrewN ?_ _) | (with_reducible refine Below.setCell ?_ ?_ _) | (with_reducible refine Below.via (by with_reducible assumption) ?_ ?_) | (with_reducible refine Below.viaD (by with_reducible assumption) ?_ ?_) | (with_reducible exact Below.size (by with_reducible assumption)) | go_size | (with_reducible refine Nat.le_trans ?_ (Below.size (by with_reducible assumption))) | (with_reducible refine Nat.le_trans ?_ (sizeAlloc _ _)) | (with_reducible refine Nat.le_trans ?_ (sizeSet _ _ _)) | (with_reducible refine Nat.le_trans ?_ (sizeDrew _))))⟩
  case round =>
    obtain ⟨k, gs, hk, rfl, hblk, hlaid, hbl⟩ := hrel
    by_cases hlt : k < n
    · obtain ⟨b, off, u0, l, p0, d0, v0, b0, A', m, c', rfl, hb', HL, hat, hsl, hm⟩ := (hs.below hbl).row hlt
      obtain ⟨c0, c1, c2, c3, c4, c5⟩ := hat
      have hml : Hid (l.length = m) := by unfold Hid; exact hsl.ints
      have hm2 : m ≤ 1048576 := by have h5 := sumLen_each (pssOf ss) hlt; rw [pssOf_at, HL.out] at h5; have := hml.out; simp only at h5; omega
      have hs2 := Lib.hid (hsl.mono hbl.size)
      have hbs := hbl.size
      have hlt0 := hblk.lt
      have HB := Lib.hid hblk
      have HD := Lib.hid hlaid
      clear hblk hlaid hsl hm
      go_wp2_with fail
      refine (toSlot_any u0 A' m c' p0 d0 v0 b0 l _ hs2.out hm2).mono ?_
      rintro e w1 ⟨g1, rfl, hg1, hg2, ho1, hb1⟩
      have hk1 := HB.out.later hb1
      have hq : ∀ f, f < 6 → w1.cell? ⟨w.heap.size, k * 6 + f, none⟩ = some (zS f) := by
        intro f hf
        rw [hk1.cell, List.getElem?_toArray, slotCells_at _ _ hlt hf, if_neg (by omega)]
      have q0 : w1.cell? ⟨w.heap.size, k * 6, none⟩ = some (.bool false) := hq 0 (by omega)
      have q1 : w1.cell? ⟨w.heap.size, k * 6 + 1, none⟩ = some (.slice none 0 0) := hq 1 (by omega)
      have q2 : w1.cell? ⟨w.heap.size, k * 6 + 2, none⟩ = some (.int .i64 0) := hq 2 (by omega)
      have q3 : w1.cell? ⟨w.heap.size, k * 6 + 3, none⟩ = some (.int .i64 0) := hq 3 (by omega)
      have q4 : w1.cell? ⟨w.heap.size, k * 6 + 4, none⟩ = some (.int .i64 0) := hq 4 (by omega)
      have q5 : w1.cell? ⟨w.heap.size, k * 6 + 5, none⟩ = some (.int .i64 0) := hq 5 (by omega)
      have f0 := hk1.free (k * 6)
      have f1 := hk1.free (k * 6 + 1)
      have f2 := hk1.free (k * 6 + 2)
      have f3 := hk1.free (k * 6 + 3)
      have f4 := hk1.free (k * 6 + 4)
      have f5 := hk1.free (k * 6 + 5)
      have HB1 := Lib.hid hk1
      have HO1 := Lib.hid ho1
      have hbs1 := hb1.size
      clear hk1 hq ho1
      go_wp2_with fail
      go_roundw
      case rel =>
        refine ⟨k + 1, fun j => if j = k then g1 else gs j, by omega, by go_num, ?_, ?_, by (repeat' (first | (with_reducible exact Below.refl _ _) | (with_reducible assumption) | (with_reducible refine Below.alloc ?_ ?_ _) | (with_reducible refine Below.drew ?_) | (with_reducible refine belowDrewN ?_ _) | (with_reducible refine Below.setCell ?_ ?_ _) | (with_reducible refine Below.via (by with_reducible assumption) ?_ ?_) | (with_reducible refine Below.viaD (by with_reducible assumption) ?_ ?_) | (with_reducible exact Below.size (by with_reducible assumption)) | go_size | (with_reducible refine Nat.le_trans ?_ (Below.size (by with_reducible assumption))) | (with_reducible refine Nat.le_trans ?_ (sizeAlloc _ _)) | (with_reducible refine Nat.le_trans ?_ (sizeSet _ _ _)) | (with_reducible refine Nat.le_trans ?_ (sizeDrew _))))⟩
        · rw [← slotCells_set ss gs hlt HL.out hml.out]
          exact ((((((HB1.out.set _ _).set _ _).set _ _).set _ _).set _ _).set _ _)
        · have hD1 : Laid w1 w.heap.size (pssOf ss) (fun j => if j = k then g1 else gs j) (k + 1) := by
            intro j hj
            have hne : ∀ i, i < k → (if i = k then g1 else gs i) = gs i := fun i hi => if_neg (by omega)
            by_cases hjk : j = k
            · subst hjk
              refine ⟨?_, ?_, fun i hi => ?_, ?_⟩
              · show w.heap.size < (if j = j then g1 else gs j)
                rw [if_pos rfl]; omega
              · show (if j = j then g1 else gs j) < _
                rw [if_pos rfl]; omega
              · show (if i = j then g1 else gs i) < (if j = j then g1 else gs j)
                rw [hne i hi, if_pos rfl]; have := (HD.out i hi).2.1; omega
              · show Own _ (if j = j then g1 else gs j) _ 1 (some ⟨if j = j then g1 else gs j, 0, none⟩) _ _
                rw [if_pos rfl, pssOf_at, HL.out]
                show Own w1 g1 _ 1 _ l.length l
                rw [hml.out]
                exact HO1.out
            · have hjl : j < k := by omega
              have h5 := (HD.out.later hb1) j hjl
              refine ⟨?_, ?_, fun i hi => ?_, ?_⟩
              · show w.heap.size < (if j = k then g1 else gs j)
                rw [hne j hjl]; exact h5.1
              · show (if j = k then g1 else gs j) < _
                rw [hne j hjl]; exact h5.2.1
              · show (if i = k then g1 else gs i) < (if j = k then g1 else gs j)
                rw [hne i (by omega), hne j hjl]; exact h5.2.2.1 i hi
              · show Own _ (if j = k then g1 else gs j) _ 1 (some ⟨if j = k then g1 else gs j, 0, none⟩) _ _
                rw [hne j hjl]; exact h5.2.2.2
          exact (((((hD1.set rfl _).set rfl _).set rfl _).set rfl _).set rfl _).set rfl _
      case measure => first | (simp [intOf]; done) | (simp [intOf]; omega)
    · obtain rfl : k = n := by omega
      go_wp2
      go_ret
      refine ⟨_, rfl, Nat.le_refl _, laid_sls hblk hlaid hs.len ?_, hbl⟩
      intro j hj
      have h5 := sumLen_each (pssOf ss) hj
      rw [pssOf_at] at h5
      omega
set_option maxHeartbeats 1000000 in
theorem res10_blk {w1 : World} {g : Nat} {t : TypeId} {u0 u1 u2 u3 u4 u5 u6 u7 u8 u9 : Value} (K : Blk w1 g t #[u0, u1, u2, u3, u4, u5, u6, u7, u8, u9]) (v0 v1 v2 v3 v4 v5 v6 v7 v8 v9 : Value) : Blk ((((((((((w1.setCell ⟨g, 0, none⟩ v0).setCell ⟨g, 1, none⟩ v1).setCell ⟨g, 2, none⟩ v2).setCell ⟨g, 3, none⟩ v3).setCell ⟨g, 4, none⟩ v4).setCell ⟨g, 5, none⟩ v5).setCell ⟨g, 6, none⟩ v6).setCell ⟨g, 7, none⟩ v7).setCell ⟨g, 8, none⟩ v8).setCell ⟨g, 9, none⟩ v9) g t #[v0, v1, v2, v3, v4, v5, v6, v7, v8, v9] := by
  have h := ((((((((((K.set 0 v0).set 1 v1).set 2 v2).set 3 v3).set 4 v4).set 5 v5).set 6 v6).set 7 v7).set 8 v8).set 9 v9)
  simp only [List.setIfInBounds_toArray, List.set_cons_succ, List.set_cons_zero] at h
  exact h
theorem res10_cells {w1 : World} {g : Nat} {t : TypeId} {u0 u1 u2 u3 u4 u5 u6 u7 u8 u9 : Value} (K : Blk w1 g t #[u0, u1, u2, u3, u4, u5, u6, u7, u8, u9]) : ∀ v0 v1 v2 v3 v4 v5 v6 v7 v8 v9, ((((((((((w1.setCell ⟨g, 0, none⟩ v0).setCell ⟨g, 1, none⟩ v1).setCell ⟨g, 2, none⟩ v2).setCell ⟨g, 3, none⟩ v3).setCell ⟨g, 4, none⟩ v4).setCell ⟨g, 5, none⟩ v5).setCell ⟨g, 6, none⟩ v6).setCell ⟨g, 7, none⟩ v7).setCell ⟨g, 8, none⟩ v8).setCell ⟨g, 9, none⟩ v9).cell? ⟨g, 0, none⟩ = some v0 ∧ ((((((((((w1.setCell ⟨g, 0, none⟩ v0).setCell ⟨g, 1, none⟩ v1).setCell ⟨g, 2, none⟩ v2).setCell ⟨g, 3, none⟩ v3).setCell ⟨g, 4, none⟩ v4).setCell ⟨g, 5, none⟩ v5).setCell ⟨g, 6, none⟩ v6).setCell ⟨g, 7, none⟩ v7).setCell ⟨g, 8, none⟩ v8).setCell ⟨g, 9, none⟩ v9).cell? ⟨g, 1, none⟩ = some v1 ∧ ((((((((((w1.setCell ⟨g, 0, none⟩ v0).setCell ⟨g, 1, none⟩ v1).setCell ⟨g, 2, none⟩ v2).setCell ⟨g, 3, none⟩ v3).setCell ⟨g, 4, none⟩ v4).setCell ⟨g, 5, none⟩ v5).setCell ⟨g, 6, none⟩ v6).setCell ⟨g, 7, none⟩ v7).setCell ⟨g, 8, none⟩ v8).setCell ⟨g, 9, none⟩ v9).cell? ⟨g, 2, none⟩ = some v2 ∧ ((((((((((w1.setCell ⟨g, 0, none⟩ v0).setCell ⟨g, 1, none⟩ v1).setCell ⟨g, 2, none⟩ v2).setCell ⟨g, 3, none⟩ v3).setCell ⟨g, 4, none⟩ v4).setCell ⟨g, 5, none⟩ v5).setCell ⟨g, 6, none⟩ v6).setCell ⟨g, 7, none⟩ v7).setCell ⟨g, 8, none⟩ v8).setCell ⟨g, 9, none⟩ v9).cell? ⟨g, 3, none⟩ = some v3 ∧ ((((((((((w1.setCell ⟨g, 0, none⟩ v0).setCell ⟨g, 1, none⟩ v1).setCell ⟨g, 2, none⟩ v2).setCell ⟨g, 3, none⟩ v3).setCell ⟨g, 4, none⟩ v4).setCell ⟨g, 5, none⟩ v5).setCell ⟨g, 6, none⟩ v6).setCell ⟨g, 7, none⟩ v7).setCell ⟨g, 8, none⟩ v8).setCell ⟨g, 9, none⟩ v9).cell? ⟨g, 4, none⟩ = some v4 ∧ ((((((((((w1.setCell ⟨g, 0, none⟩ v0).setCell ⟨g, 1, none⟩ v1).setCell ⟨g, 2, none⟩ v2).setCell ⟨g, 3, none⟩ v3).setCell ⟨g, 4, none⟩ v4).setCell ⟨g, 5, none⟩ v5).setCell ⟨g, 6, none⟩ v6).setCell ⟨g, 7, none⟩ v7).setCell ⟨g, 8, none⟩ v8).setCell ⟨g, 9, none⟩ v9).cell? ⟨g, 5, none⟩ = some v5 ∧ ((((((((((w1.setCell ⟨g, 0, none⟩ v0).setCell ⟨g, 1, none⟩ v1).setCell ⟨g, 2, none⟩ v2).setCell ⟨g, 3, none⟩ v3).setCell ⟨g, 4, none⟩ v4).setCell ⟨g, 5, none⟩ v5).setCell ⟨g, 6, none⟩ v6).setCell ⟨g, 7, none⟩ v7).setCell ⟨g, 8, none⟩ v8).setCell ⟨g, 9, none⟩ v9).cell? ⟨g, 6, none⟩ = some v6 ∧ ((((((((((w1.setCell ⟨g, 0, none⟩ v0).setCell ⟨g, 1, none⟩ v1).setCell ⟨g, 2, none⟩ v2).setCell ⟨g, 3, none⟩ v3).setCell ⟨g, 4, none⟩ v4).setCell ⟨g, 5, none⟩ v5).setCell ⟨g, 6, none⟩ v6).setCell ⟨g, 7, none⟩ v7).setCell ⟨g, 8, none⟩ v8).setCell ⟨g, 9, none⟩ v9).cell? ⟨g, 7, none⟩ = some v7 ∧ ((((((((((w1.setCell ⟨g, 0, none⟩ v0).setCell ⟨g, 1, none⟩ v1).setCell ⟨g, 2, none⟩ v2).setCell ⟨g, 3, none⟩ v3).setCell ⟨g, 4, none⟩ v4).setCell ⟨g, 5, none⟩ v5).setCell ⟨g, 6, none⟩ v6).setCell ⟨g, 7, none⟩ v7).setCell ⟨g, 8, none⟩ v8).setCell ⟨g, 9, none⟩ v9).cell? ⟨g, 8, none⟩ = some v8 ∧ ((((((((((w1.setCell ⟨g, 0, none⟩ v0).setCell ⟨g, 1, none⟩ v1).setCell ⟨g, 2, none⟩ v2).setCell ⟨g, 3, none⟩ v3).setCell ⟨g, 4, none⟩ v4).setCell ⟨g, 5, none⟩ v5).setCell ⟨g, 6, none⟩ v6).setCell ⟨g, 7, none⟩ v7).setCell ⟨g, 8, none⟩ v8).setCell ⟨g, 9, none⟩ v9).cell? ⟨g, 9, none⟩ = some v9 :=
  fun v0 v1 v2 v3 v4 v5 v6 v7 v8 v9 => have h := res10_blk K v0 v1 v2 v3 v4 v5 v6 v7 v8 v9; ⟨h.cell 0, h.cell 1, h.cell 2, h.cell 3, h.cell 4, h.cell 5, h.cell 6, h.cell 7, h.cell 8, h.cell 9⟩
theorem Blk.far {w : World} {g : Nat} {t : TypeId} {cs : Array Value} (h : Blk w g t cs) {p : Addr} (hne : p.block ≠ g) (u : Value) : Blk (w.setCell p u) g t cs := (Below.heap_setCell w p u _ (fun e => by omega)).trans h
def ToMem (r : Ru) (n : Nat) (ss : List SlotR) (w : World) (e : Ending) (w' : World) : Prop := ∃ g, e = .returned (.agg #[.int .i64 r.p, .int .i64 r.s, .bool r.st, .bool r.sk, .bool r.re, .bool r.fe, .bool r.ag, .int .i64 r.ca, .int .i64 r.sl, .slice (some ⟨g, 0, none⟩) n n]) ∧ w.heap.size ≤ g ∧ Sls w' w'.heap.size (some ⟨g, 0, none⟩) n ss ∧ Below w.heap.size w w'
/-- The cells of a longer stay of blocks. -/
theorem Kept.from {lo : Nat} {w' w'' : World} {X : World → Prop} (h : Kept lo w' X) (hz : w'.heap.size ≤ w''.heap.size) (hk : ∀ b o, lo ≤ b → w''.cell? ⟨b, o, none⟩ = w'.cell? ⟨b, o, none⟩) : X w'' := h w'' hz (fun b o hb _ => hk b o hb)
set_option maxHeartbeats 2000000 in
theorem toMemory_any (r : Ru) (A : Option Addr) (n c : Nat) (ss : List SlotR) (w : World) (hs : Sls w w.heap.size A n ss) (hn : n + sumLen (pssOf ss) n ≤ 1048576) :
    Calls Try.prog 19 #[.agg #[.int .i64 r.p, .int .i64 r.s, .bool r.st, .bool r.sk, .bool r.re, .bool r.fe, .bool r.ag, .int .i64 r.ca, .int .i64 r.sl, .slice A n c]] w (ToMem r n ss w) := by
  go_enter Try.func19, Try.ntmps19
  go_wp2_with fail
  refine (toRules_lit r _).mono ?_
  rintro e w1 ⟨rfl, rfl⟩
  go_wp2_with fail
  refine (toSlotS_any A n c ss _ (hs.later (by (repeat' (first | (with_reducible exact Below.refl _ _) | (with_reducible assumption) | (with_reducible refine Below.alloc ?_ ?_ _) | (with_reducible refine Below.drew ?_) | (with_reducible refine belowDrewN ?_ _) | (with_reducible refine Below.setCell ?_ ?_ _) | (with_reducible refine Below.via (by with_reducible assumption) ?_ ?_) | (with_reducible refine Below.viaD (by with_reducible assumption) ?_ ?_) | (with_reducible exact Below.size (by with_reducible assumption)) | go_size | (with_reducible refine Nat.le_trans ?_ (Below.size (by with_reducible assumption))) | (with_reducible refine Nat.le_trans ?_ (sizeAlloc _ _)) | (with_reducible refine Nat.le_trans ?_ (sizeSet _ _ _)) | (with_reducible refine Nat.le_trans ?_ (sizeDrew _)))))) hn).mono ?_
  rintro e w2 ⟨g, rfl, hg, hs2, hb2⟩
  have hk1 : Blk w2 (w.heap.size + 1) 27 #[.int .i64 0, .int .i64 0, .bool false, .bool false, .bool false, .bool false, .bool false, .int .i64 0, .int .i64 0, .slice none 0 0] := Blk.later (Blk.later (Blk.new' (w := w.alloc (.cells #[.int .i64 r.p, .int .i64 r.s, .bool r.st, .bool r.sk, .bool r.re, .bool r.fe, .bool r.ag, .int .i64 r.ca, .int .i64 r.sl, .slice A n c] 36)) (by simp)) (by (repeat' (first | (with_reducible exact Below.refl _ _) | (with_reducible assumption) | (with_reducible refine Below.alloc ?_ ?_ _) | (with_reducible refine Below.drew ?_) | (with_reducible refine belowDrewN ?_ _) | (with_reducible refine Below.setCell ?_ ?_ _) | (with_reducible refine Below.via (by with_reducible assumption) ?_ ?_) | (with_reducible refine Below.viaD (by with_reducible assumption) ?_ ?_) | (with_reducible exact Below.size (by with_reducible assumption)) | go_size | (with_reducible refine Nat.le_trans ?_ (Below.size (by with_reducible assumption))) | (with_reducible refine Nat.le_trans ?_ (sizeAlloc _ _)) | (with_reducible refine Nat.le_trans ?_ (sizeSet _ _ _)) | (with_reducible refine Nat.le_trans ?_ (sizeDrew _)))))) hb2
  have hk2 : Blk w2 (w.heap.size + 1 + 1) 27 #[.int .i64 r.p, .int .i64 r.s, .bool r.st, .bool r.sk, .bool r.re, .bool r.fe, .bool r.ag, .int .i64 r.ca, .int .i64 r.sl, .slice none 0 0] := Blk.later (Blk.later (Blk.new' (w := (w.alloc (.cells #[.int .i64 r.p, .int .i64 r.s, .bool r.st, .bool r.sk, .bool r.re, .bool r.fe, .bool r.ag, .int .i64 r.ca, .int .i64 r.sl, .slice A n c] 36)).alloc (.cells #[.int .i64 0, .int .i64 0, .bool false, .bool false, .bool false, .bool false, .bool false, .int .i64 0, .int .i64 0, .slice none 0 0] 27)) (by simp)) (by (repeat' (first | (with_reducible exact Below.refl _ _) | (with_reducible assumption) | (with_reducible refine Below.alloc ?_ ?_ _) | (with_reducible refine Below.drew ?_) | (with_reducible refine belowDrewN ?_ _) | (with_reducible refine Below.setCell ?_ ?_ _) | (with_reducible refine Below.via (by with_reducible assumption) ?_ ?_) | (with_reducible refine Below.viaD (by with_reducible assumption) ?_ ?_) | (with_reducible exact Below.size (by with_reducible assumption)) | go_size | (with_reducible refine Nat.le_trans ?_ (Below.size (by with_reducible assumption))) | (with_reducible refine Nat.le_trans ?_ (sizeAlloc _ _)) | (with_reducible refine Nat.le_trans ?_ (sizeSet _ _ _)) | (with_reducible refine Nat.le_trans ?_ (sizeDrew _)))))) hb2
  have hbw : Below w.heap.size w w2 := by (repeat' (first | (with_reducible exact Below.refl _ _) | (with_reducible assumption) | (with_reducible refine Below.alloc ?_ ?_ _) | (with_reducible refine Below.drew ?_) | (with_reducible refine belowDrewN ?_ _) | (with_reducible refine Below.setCell ?_ ?_ _) | (with_reducible refine Below.via (by with_reducible assumption) ?_ ?_) | (with_reducible refine Below.viaD (by with_reducible assumption) ?_ ?_) | (with_reducible exact Below.size (by with_reducible assumption)) | go_size | (with_reducible refine Nat.le_trans ?_ (Below.size (by with_reducible assumption))) | (with_reducible refine Nat.le_trans ?_ (sizeAlloc _ _)) | (with_reducible refine Nat.le_trans ?_ (sizeSet _ _ _)) | (with_reducible refine Nat.le_trans ?_ (sizeDrew _))))
  have hl1 := hk1.lt
  have hl2 := hk2.lt
  have hg1 : w.heap.size ≤ g := by simp at hg; omega
  have hs3 := Lib.hid hs2
  have e0 : w2.cell? ⟨w.heap.size + 1, 0, none⟩ = some (.int .i64 0) := hk1.cell 0
  have x0 : w2.cell? ⟨w.heap.size + 1 + 1, 0, none⟩ = some (.int .i64 r.p) := hk2.cell 0
  have e1 : w2.cell? ⟨w.heap.size + 1, 1, none⟩ = some (.int .i64 0) := hk1.cell 1
  have x1 : w2.cell? ⟨w.heap.size + 1 + 1, 1, none⟩ = some (.int .i64 r.s) := hk2.cell 1
  have e2 : w2.cell? ⟨w.heap.size + 1, 2, none⟩ = some (.bool false) := hk1.cell 2
  have x2 : w2.cell? ⟨w.heap.size + 1 + 1, 2, none⟩ = some (.bool r.st) := hk2.cell 2
  have e3 : w2.cell? ⟨w.heap.size + 1, 3, none⟩ = some (.bool false) := hk1.cell 3
  have x3 : w2.cell? ⟨w.heap.size + 1 + 1, 3, none⟩ = some (.bool r.sk) := hk2.cell 3
  have e4 : w2.cell? ⟨w.heap.size + 1, 4, none⟩ = some (.bool false) := hk1.cell 4
  have x4 : w2.cell? ⟨w.heap.size + 1 + 1, 4, none⟩ = some (.bool r.re) := hk2.cell 4
  have e5 : w2.cell? ⟨w.heap.size + 1, 5, none⟩ = some (.bool false) := hk1.cell 5
  have x5 : w2.cell? ⟨w.heap.size + 1 + 1, 5, none⟩ = some (.bool r.fe) := hk2.cell 5
  have e6 : w2.cell? ⟨w.heap.size + 1, 6, none⟩ = some (.bool false) := hk1.cell 6
  have x6 : w2.cell? ⟨w.heap.size + 1 + 1, 6, none⟩ = some (.bool r.ag) := hk2.cell 6
  have e7 : w2.cell? ⟨w.heap.size + 1, 7, none⟩ = some (.int .i64 0) := hk1.cell 7
  have x7 : w2.cell? ⟨w.heap.size + 1 + 1, 7, none⟩ = some (.int .i64 r.ca) := hk2.cell 7
  have e8 : w2.cell? ⟨w.heap.size + 1, 8, none⟩ = some (.int .i64 0) := hk1.cell 8
  have x8 : w2.cell? ⟨w.heap.size + 1 + 1, 8, none⟩ = some (.int .i64 r.sl) := hk2.cell 8
  have e9 : w2.cell? ⟨w.heap.size + 1, 9, none⟩ = some (.slice none 0 0) := hk1.cell 9
  have x9 : w2.cell? ⟨w.heap.size + 1 + 1, 9, none⟩ = some (.slice none 0 0) := hk2.cell 9
  have hf1 := hk1.free
  have hf2 := hk2.free
  have hq := res10_cells (hk1.far (p := ⟨w.heap.size + 1 + 1, 9, none⟩) (by show w.heap.size + 1 + 1 ≠ _; omega) (.slice (some ⟨g, 0, none⟩) n n))
  have HK1 := Lib.hid hk1
  have HK2 := Lib.hid hk2
  clear hb2 hg hk1 hk2 hs2 hs
  go_wp2_with fail
  (try simp only [Exit.inBlock, Exit.then])
  refine bodyPost_ret (by simp [results, Try.results19, go_sem, hq]; try rfl) rfl ?_
  refine ⟨g, rfl, hg1, hs3.out _ (by simp) (fun b o hb _ => ?_), by (repeat' (first | (with_reducible exact Below.refl _ _) | (with_reducible assumption) | (with_reducible refine Below.alloc ?_ ?_ _) | (with_reducible refine Below.drew ?_) | (with_reducible refine belowDrewN ?_ _) | (with_reducible refine Below.setCell ?_ ?_ _) | (with_reducible refine Below.via (by with_reducible assumption) ?_ ?_) | (with_reducible refine Below.viaD (by with_reducible assumption) ?_ ?_) | (with_reducible exact Below.size (by with_reducible assumption)) | go_size | (with_reducible refine Nat.le_trans ?_ (Below.size (by with_reducible assumption))) | (with_reducible refine Nat.le_trans ?_ (sizeAlloc _ _)) | (with_reducible refine Nat.le_trans ?_ (sizeSet _ _ _)) | (with_reducible refine Nat.le_trans ?_ (sizeDrew _))))⟩
  have hb5 : w.heap.size + 6 ≤ b := by simp at hb; omega
  repeat (rw [World.cell?_setCell_other _ _ _ _ (fun he => by have h := congrArg Addr.block he; simp at h; omega)])
set_option maxHeartbeats 1000000 in
theorem eqSlot_same (u : Bool) (A A' : Option Addr) (m c c' : Nat) (p d v b : Int) (ps : List Int) (w : World) (hs : Sl w w.heap.size 1 A m (ps.map (Value.int .i64))) (hs' : Sl w w.heap.size 1 A' m (ps.map (Value.int .i64))) (hm : m ≤ 9223372036854775807) :
    Calls Try.prog 72 #[.agg #[.bool u, .slice A m c, .int .i64 p, .int .i64 d, .int .i64 v, .int .i64 b], .agg #[.bool u, .slice A' m c', .int .i64 p, .int .i64 d, .int .i64 v, .int .i64 b]] w fun e w' => e = .returned (.bool true) ∧ Below w.heap.size w w' := by
  go_enter Try.func72, Try.ntmps72
  go_wp2_with fail
  refine (eqInt64S_any A A' m m c c' ps ps _ (hs.later (by (repeat' (first | (with_reducible exact Below.refl _ _) | (with_reducible assumption) | (with_reducible refine Below.alloc ?_ ?_ _) | (with_reducible refine Below.drew ?_) | (with_reducible refine belowDrewN ?_ _) | (with_reducible refine Below.setCell ?_ ?_ _) | (with_reducible refine Below.via (by with_reducible assumption) ?_ ?_) | (with_reducible refine Below.viaD (by with_reducible assumption) ?_ ?_) | (with_reducible exact Below.size (by with_reducible assumption)) | go_size | (with_reducible refine Nat.le_trans ?_ (Below.size (by with_reducible assumption))) | (with_reducible refine Nat.le_trans ?_ (sizeAlloc _ _)) | (with_reducible refine Nat.le_trans ?_ (sizeSet _ _ _)) | (with_reducible refine Nat.le_trans ?_ (sizeDrew _)))))) (hs'.later (by (repeat' (first | (with_reducible exact Below.refl _ _) | (with_reducible assumption) | (with_reducible refine Below.alloc ?_ ?_ _) | (with_reducible refine Below.drew ?_) | (with_reducible refine belowDrewN ?_ _) | (with_reducible refine Below.setCell ?_ ?_ _) | (with_reducible refine Below.via (by with_reducible assumption) ?_ ?_) | (with_reducible refine Below.viaD (by with_reducible assumption) ?_ ?_) | (with_reducible exact Below.size (by with_reducible assumption)) | go_size | (with_reducible refine Nat.le_trans ?_ (Below.size (by with_reducible assumption))) | (with_reducible refine Nat.le_trans ?_ (sizeAlloc _ _)) | (with_reducible refine Nat.le_trans ?_ (sizeSet _ _ _)) | (with_reducible refine Nat.le_trans ?_ (sizeDrew _)))))) hm hm).mono ?_
  rintro e w1 ⟨rfl, hb1⟩
  obtain ⟨hc1, hf1, hl1, hz1⟩ := bfacts hb1
  have hq : (ps == ps) = true := by simp
  rw [hq]
  clear hq
  go_wp2_with fail
  go_ret
  exact ⟨rfl, by (repeat' (first | (with_reducible exact Below.refl _ _) | (with_reducible assumption) | (with_reducible refine Below.alloc ?_ ?_ _) | (with_reducible refine Below.drew ?_) | (with_reducible refine belowDrewN ?_ _) | (with_reducible refine Below.setCell ?_ ?_ _) | (with_reducible refine Below.via (by with_reducible assumption) ?_ ?_) | (with_reducible refine Below.viaD (by with_reducible assumption) ?_ ?_) | (with_reducible exact Below.size (by with_reducible assumption)) | go_size | (with_reducible refine Nat.le_trans ?_ (Below.size (by with_reducible assumption))) | (with_reducible refine Nat.le_trans ?_ (sizeAlloc _ _)) | (with_reducible refine Nat.le_trans ?_ (sizeSet _ _ _)) | (with_reducible refine Nat.le_trans ?_ (sizeDrew _))))⟩
set_option maxHeartbeats 1000000 in
theorem eqSlotS_same (A A' : Option Addr) (n c c' : Nat) (ss : List SlotR) (w : World) (hs : Sls w w.heap.size A n ss) (hs' : Sls w w.heap.size A' n ss) (hn : n ≤ 9223372036854775807) :
    Calls Try.prog 46 #[.slice A n c, .slice A' n c'] w fun e w' => e = .returned (.bool true) ∧ Below w.heap.size w w' := by
  go_enter Try.func46, Try.ntmps46
  go_wp2
  go_loopw [5] (fun i wr => ∃ k : Nat, k ≤ n ∧ i = .int .i64 k ∧ Below w.heap.size w wr) (fun i _ => n - (intOf i).toNat)
  case atStart => exact ⟨0, Nat.zero_le _, rfl, by (repeat' (first | (with_reducible exact Below.refl _ _) | (with_reducible assumption) | (with_reducible refine Below.alloc ?_ ?_ _) | (with_reducible refine Below.drew ?_) | (with_reducible refine belowDrewN ?_ _) | (with_reducible refine Below.setCell ?_ ?_ _) | (with_reducible refine Below.via (by with_reducible assumption) ?_ ?_) | (with_reducible refine Below.viaD (by with_reducible assumption) ?_ ?_) | (with_reducible exact Below.size (by with_reducible assumption)) | go_size | (with_reducible refine Nat.le_trans ?_ (Below.size (by with_reducible assumption))) | (with_reducible refine Nat.le_trans ?_ (sizeAlloc _ _)) | (with_reducible refine Nat.le_trans ?_ (sizeSet _ _ _)) | (with_reducible refine Nat.le_trans ?_ (sizeDrew _))))⟩
  case round =>
    obtain ⟨k, hk, rfl, hbl⟩ := hrel
    have hbs := hbl.size
    by_cases hlt : k < n
    · obtain ⟨b, off, u0, l, p0, d0, v0, b0, A1, m, c1, rfl, hb', HL, hat, hsl, hm⟩ := (hs.below hbl).row hlt
      obtain ⟨b2, off2, u2, l2, p2, d2, v2, b2', A2, m2, c2, rfl, hb2', HL2, hat2, hsl2, hm2⟩ := (hs'.below hbl).row hlt
      obtain ⟨rfl, rfl, rfl, rfl, rfl, rfl⟩ : u0 = u2 ∧ l = l2 ∧ p0 = p2 ∧ d0 = d2 ∧ v0 = v2 ∧ b0 = b2' := by
        have h := HL.out.symm.trans HL2.out
        injection h with h1 h2 h3 h4 h5 h6
        exact ⟨h1, h2, h3, h4, h5, h6⟩
      obtain rfl : m = m2 := hsl.ints.symm.trans hsl2.ints
      obtain ⟨x0, x1, x2, x3, x4, x5⟩ := hat
      obtain ⟨y0, y1, y2, y3, y4, y5⟩ := hat2
      have S1 := Lib.hid (hsl.mono hbs)
      have S2 := Lib.hid (hsl2.mono hbs)
      clear hsl hsl2
      go_wp2_with fail
      go_region_with (go_at_call 72; refine (eqSlot_same _ _ _ _ _ _ _ _ _ _ l _ ?_ ?_ hm).mono ?_; (first | exact S1.out | exact S1.out.drew | exact S1.out.drewN _); (first | exact S2.out | exact S2.out.drew | exact S2.out.drewN _); rintro e w1 ⟨rfl, hb1⟩; have hbu := Below.undrew hb1)
      all_goals
        go_wp2_with fail
        go_roundw
        case rel => exact ⟨k + 1, by omega, by go_num, by (repeat' (first | (with_reducible exact Below.refl _ _) | (with_reducible assumption) | (with_reducible refine Below.alloc ?_ ?_ _) | (with_reducible refine Below.drew ?_) | (with_reducible refine belowDrewN ?_ _) | (with_reducible refine Below.setCell ?_ ?_ _) | (with_reducible refine Below.via (by with_reducible assumption) ?_ ?_) | (with_reducible refine Below.viaD (by with_reducible assumption) ?_ ?_) | (with_reducible exact Below.size (by with_reducible assumption)) | go_size | (with_reducible refine Nat.le_trans ?_ (Below.size (by with_reducible assumption))) | (with_reducible refine Nat.le_trans ?_ (sizeAlloc _ _)) | (with_reducible refine Nat.le_trans ?_ (sizeSet _ _ _)) | (with_reducible refine Nat.le_trans ?_ (sizeDrew _))))⟩
        case measure => first | (simp [intOf]; done) | (simp [intOf]; omega)
    · obtain rfl : k = n := by omega
      go_wp2
      go_ret
      exact ⟨rfl, hbl⟩
set_option maxHeartbeats 1000000 in
theorem eqMem_same (r : Ru) (A A' : Option Addr) (n c c' : Nat) (ss : List SlotR) (w : World) (hs : Sls w w.heap.size A n ss) (hs' : Sls w w.heap.size A' n ss) (hn : n ≤ 9223372036854775807) :
    Calls Try.prog 14 #[.agg #[.int .i64 r.p, .int .i64 r.s, .bool r.st, .bool r.sk, .bool r.re, .bool r.fe, .bool r.ag, .int .i64 r.ca, .int .i64 r.sl, .slice A n c], .agg #[.int .i64 r.p, .int .i64 r.s, .bool r.st, .bool r.sk, .bool r.re, .bool r.fe, .bool r.ag, .int .i64 r.ca, .int .i64 r.sl, .slice A' n c']] w fun e w' => e = .returned (.bool true) ∧ Below w.heap.size w w' := by
  go_enter Try.func14, Try.ntmps14
  go_wp2_with fail
  refine (eqRules_same r _).mono ?_
  rintro e w1 ⟨rfl, hb1⟩
  obtain ⟨hc1, hf1, hl1, hz1⟩ := bfacts hb1
  go_wp2_with fail
  refine (eqSlotS_same A A' n c c' ss _ (hs.later (by (repeat' (first | (with_reducible exact Below.refl _ _) | (with_reducible assumption) | (with_reducible refine Below.alloc ?_ ?_ _) | (with_reducible refine Below.drew ?_) | (with_reducible refine belowDrewN ?_ _) | (with_reducible refine Below.setCell ?_ ?_ _) | (with_reducible refine Below.via (by with_reducible assumption) ?_ ?_) | (with_reducible refine Below.viaD (by with_reducible assumption) ?_ ?_) | (with_reducible exact Below.size (by with_reducible assumption)) | go_size | (with_reducible refine Nat.le_trans ?_ (Below.size (by with_reducible assumption))) | (with_reducible refine Nat.le_trans ?_ (sizeAlloc _ _)) | (with_reducible refine Nat.le_trans ?_ (sizeSet _ _ _)) | (with_reducible refine Nat.le_trans ?_ (sizeDrew _)))))) (hs'.later (by (repeat' (first | (with_reducible exact Below.refl _ _) | (with_reducible assumption) | (with_reducible refine Below.alloc ?_ ?_ _) | (with_reducible refine Below.drew ?_) | (with_reducible refine belowDrewN ?_ _) | (with_reducible refine Below.setCell ?_ ?_ _) | (with_reducible refine Below.via (by with_reducible assumption) ?_ ?_) | (with_reducible refine Below.viaD (by with_reducible assumption) ?_ ?_) | (with_reducible exact Below.size (by with_reducible assumption)) | go_size | (with_reducible refine Nat.le_trans ?_ (Below.size (by with_reducible assumption))) | (with_reducible refine Nat.le_trans ?_ (sizeAlloc _ _)) | (with_reducible refine Nat.le_trans ?_ (sizeSet _ _ _)) | (with_reducible refine Nat.le_trans ?_ (sizeDrew _)))))) hn).mono ?_
  rintro e w2 ⟨rfl, hb2⟩
  go_wp2_with fail
  go_ret
  exact ⟨rfl, by (repeat' (first | (with_reducible exact Below.refl _ _) | (with_reducible assumption) | (with_reducible refine Below.alloc ?_ ?_ _) | (with_reducible refine Below.drew ?_) | (with_reducible refine belowDrewN ?_ _) | (with_reducible refine Below.setCell ?_ ?_ _) | (with_reducible refine Below.via (by with_reducible assumption) ?_ ?_) | (with_reducible refine Below.viaD (by with_reducible assumption) ?_ ?_) | (with_reducible exact Below.size (by with_reducible assumption)) | go_size | (with_reducible refine Nat.le_trans ?_ (Below.size (by with_reducible assumption))) | (with_reducible refine Nat.le_trans ?_ (sizeAlloc _ _)) | (with_reducible refine Nat.le_trans ?_ (sizeSet _ _ _)) | (with_reducible refine Nat.le_trans ?_ (sizeDrew _))))⟩
end Go.Proofs.Ytpcenpedbdenmaa
