/- Lists of entries copied and compared; books. Conditions: lengths below 2^20. -/
import Derived.Test.YtpcenpedbdenmaaEnt2
import Derived.Test.YtpcenpedbdenmaaSlot2
namespace Go.Proofs.Ytpcenpedbdenmaa
set_option linter.unusedSimpArgs false
set_option linter.unusedVariables false
open Go.RowKit Go.WideShapes Go.ChangeShapes Go.Deep

def entF (es : List EntR) (gs hs : Nat → Nat) (k q : Nat) : Value := if q / 2 < k then (if q % 2 = 0 then .slice (some ⟨gs (q / 2), 0, none⟩) (es.getD (q / 2) dE).ps.length (es.getD (q / 2) dE).ps.length else .slice (some ⟨hs (q / 2), 0, none⟩) ((es.getD (q / 2) dE).cs.length / 3) ((es.getD (q / 2) dE).cs.length / 3)) else .slice none 0 0
/-- The cells of an outer list of which the first entries are laid. -/
def entCells (es : List EntR) (gs hs : Nat → Nat) (n k : Nat) : List Value := (List.range (n * 2)).map (entF es gs hs k)
theorem entCells_at (es : List EntR) (gs hs : Nat → Nat) {n k q : Nat} (hq : q < n * 2) : (entCells es gs hs n k)[q]? = some (entF es gs hs k q) := by
  rw [entCells, List.getElem?_map, List.getElem?_range hq]; rfl
theorem entCells_set (es : List EntR) (gs hs : Nat → Nat) {n k g h m m2 : Nat} {ps cs : List Int} (hk : k < n) (he : es.getD k dE = ⟨ps, cs⟩) (hm : ps.length = m) (hm2 : cs.length / 3 = m2) :
    (((entCells es gs hs n k).toArray.setIfInBounds (k * 2) (.slice (some ⟨g, 0, none⟩) m m)).setIfInBounds (k * 2 + 1) (.slice (some ⟨h, 0, none⟩) m2 m2)) = (entCells es (fun j => if j = k then g else gs j) (fun j => if j = k then h else hs j) n (k + 1)).toArray := by
  rw [entCells, range_set, range_set, entCells]
  congr 1
  apply List.map_congr_left
  intro q _
  rcases Nat.lt_trichotomy (q / 2) k with h1 | h1 | h1
  · rw [if_neg (by omega), if_neg (by omega), entF, entF, if_pos h1, if_pos (show q / 2 < k + 1 by omega), if_neg (show ¬ q / 2 = k by omega), if_neg (show ¬ q / 2 = k by omega)]
  · rw [entF, entF, if_pos (show q / 2 < k + 1 by omega), h1, if_pos rfl, if_pos rfl, he]
    simp only [hm, hm2]
    rcases Nat.mod_two_eq_zero_or_one q with h2 | h2
    · have c1 : ¬ q = k * 2 + 1 := by omega
      have c0 : q = k * 2 := by omega
      rw [if_neg c1, if_pos c0, if_pos h2]
    · have c1 : q = k * 2 + 1 := by omega
      have c0 : ¬ q % 2 = 0 := by omega
      rw [if_pos c1, if_neg c0]
  · rw [if_neg (by omega), if_neg (by omega), entF, entF, if_neg (by omega), if_neg (by omega)]
theorem zeroE_made (es : List EntR) (gs hs : Nat → Nat) (n : Nat) : madeCells (Value.agg #[.slice none 0 0, .slice none 0 0]).cells (n * 2) = (entCells es gs hs n 0).toArray := by
  apply Array.ext_getElem?
  intro i
  have e : (Value.agg #[.slice none 0 0, .slice none 0 0]).cells = #[Value.slice none 0 0, Value.slice none 0 0] := rfl
  rw [e]
  unfold madeCells
  rw [Array.getElem?_map]
  rcases Nat.lt_or_ge i (n * 2) with h | h
  · have h2 : (#[Value.slice none 0 0, Value.slice none 0 0] : Array Value)[i % 2]? = some (.slice none 0 0) := by
      rcases Nat.mod_two_eq_zero_or_one i with h2 | h2 <;> rw [h2] <;> rfl
    have hs' : (#[Value.slice none 0 0, Value.slice none 0 0] : Array Value).size = 2 := rfl
    have h3 : (entCells es gs hs n 0).toArray[i]? = some (.slice none 0 0) := by rw [List.getElem?_toArray, entCells_at _ _ _ h, entF, if_neg (by omega)]
    rw [h3]
    rcases Nat.mod_two_eq_zero_or_one i with h4 | h4 <;> simp [h, h4]
  · have h3 : (entCells es gs hs n 0).toArray[i]? = none := by rw [List.getElem?_toArray]; exact List.getElem?_eq_none (by simpa [entCells] using h)
    rw [h3]
    simp [h]
theorem info_Ent : (Try.prog.info? 105).map (fun i => (i.zero, i.size, i.bytes)) = some (some (.agg #[.slice none 0 0, .slice none 0 0]), 2, 48) := by kernel_rfl
/-- The inner lists of the first entries lie in blocks of their own. -/
def LaidE (w : World) (lo : Nat) (es : List EntR) (gs hs : Nat → Nat) (k : Nat) : Prop := ∀ j, j < k → lo < gs j ∧ lo < hs j ∧ Blk w (gs j) 2 ((es.getD j dE).ps.map (Value.int .i64)).toArray ∧ Blk w (hs j) 123 ((es.getD j dE).cs.map (Value.int .i64)).toArray
theorem LaidE.later {w w' : World} {lo k : Nat} {es : List EntR} {gs hs : Nat → Nat} (h : LaidE w lo es gs hs k) (hb : Below w.heap.size w w') : LaidE w' lo es gs hs k := fun j hj => ⟨(h j hj).1, (h j hj).2.1, (h j hj).2.2.1.later hb, (h j hj).2.2.2.later hb⟩
theorem LaidE.set {w : World} {lo k : Nat} {es : List EntR} {gs hs : Nat → Nat} (h : LaidE w lo es gs hs k) {p : Addr} (hp : p.block = lo) (u : Value) : LaidE (w.setCell p u) lo es gs hs k := fun j hj =>
  ⟨(h j hj).1, (h j hj).2.1, (h j hj).2.2.1.othE _ _ (fun e => by have := (h j hj).1; omega), (h j hj).2.2.2.othE _ _ (fun e => by have := (h j hj).2.1; omega)⟩
theorem laid_ens {w : World} {lo n : Nat} {es : List EntR} {gs hs : Nat → Nat} (hk : Blk w lo 105 (entCells es gs hs n n).toArray) (hl : LaidE w lo es gs hs n) (hn : es.length = n) (hm : ∀ j, j < n → (es.getD j dE).ps.length ≤ 9223372036854775807 ∧ (es.getD j dE).cs.length / 3 ≤ 9223372036854775807 ∧ (es.getD j dE).cs.length = (es.getD j dE).cs.length / 3 * 3) : Kept lo w (fun w'' => Ens w'' w''.heap.size (some ⟨lo, 0, none⟩) n es) :=
  fun w'' hz hc => ⟨hn, fun h0 => ⟨lo, 0, rfl, Nat.lt_of_lt_of_le hk.lt hz, fun j hj => by
    have c : ∀ q, q < n * 2 → w''.cell? ⟨lo, q, none⟩ = some (entF es gs hs n q) := by
      intro q hq
      rw [hc _ _ (Nat.le_refl _) hk.lt, hk.cell, List.getElem?_toArray, entCells_at _ _ _ hq]
    have c0 := c (0 + j * 2) (by omega)
    have c1 := c (0 + j * 2 + 1) (by omega)
    rw [entF, if_pos (by omega), if_pos (by omega), show (0 + j * 2) / 2 = j by omega] at c0
    rw [entF, if_pos (by omega), if_neg (by omega), show (0 + j * 2 + 1) / 2 = j by omega] at c1
    obtain ⟨h1, h2, h3, h4⟩ := hl j hj
    have s3 := blk_sl3 (m := 1) (n := (es.getD j dE).ps.length) h3 (by omega)
    have s4 := blk_sl3 (m := 3) (n := (es.getD j dE).cs.length / 3) h4 (hm j hj).2.2
    have keepS : ∀ {m n' g : Nat} {xs : List Value}, lo < g → g < w.heap.size → Sl w w.heap.size m (some ⟨g, 0, none⟩) n' xs → Sl w'' w''.heap.size m (some ⟨g, 0, none⟩) n' xs := fun hg1 hg2 hs' => ⟨hs'.1, fun hm0 => by
      obtain ⟨b, off, e, hb, hcc⟩ := hs'.2 hm0
      injection e with e
      injection e with e1 e2
      subst e1 e2
      exact ⟨_, _, rfl, Nat.lt_of_lt_of_le hb hz, fun i u hu => (hc _ _ (by omega) hg2).trans (hcc i u hu)⟩⟩
    exact ⟨some ⟨gs j, 0, none⟩, _, _, some ⟨hs j, 0, none⟩, _, _, c0, c1, keepS h1 h3.lt s3, keepS h2 h4.lt s4, (hm j hj).1, (hm j hj).2.1⟩⟩⟩
def ToEns (n : Nat) (es : List EntR) (w : World) (e : Ending) (w' : World) : Prop := ∃ g, e = .returned (.slice (some ⟨g, 0, none⟩) n n) ∧ w.heap.size ≤ g ∧ Kept w.heap.size w' (fun w'' => Ens w'' w''.heap.size (some ⟨g, 0, none⟩) n es) ∧ Below w.heap.size w w'
theorem ens_len {w : World} {B n : Nat} {A : Option Addr} {es : List EntR} (h : Ens w B A n es) (hn : n + sumLen (lensE es) n ≤ 1048576) : ∀ j, j < n → (es.getD j dE).ps.length ≤ 1048576 ∧ (es.getD j dE).cs.length / 3 ≤ 1048576 ∧ (es.getD j dE).cs.length = (es.getD j dE).cs.length / 3 * 3 := by
  intro j hj
  have h5 := sumLen_each (lensE es) hj
  rw [lensE_at] at h5
  obtain ⟨b, off, ps, cs, A1, m, c, A2, m2, c2, rfl, hb, HL, -, -, s1, s2, -, -⟩ := h.row hj
  have h6 := s2.cnt
  rw [HL.out] at h5 ⊢
  simp only at h5 ⊢
  omega
set_option maxHeartbeats 2000000 in
theorem toEnts_any (A : Option Addr) (n c : Nat) (es : List EntR) (w : World) (hs : Ens w w.heap.size A n es) (hn : n + sumLen (lensE es) n ≤ 1048576) :
    Calls Try.prog 69 #[.slice A n c] w (ToEns n es w) := by
  obtain ⟨i0, hi, hz0, hz1, hz2⟩ := info_parts info_Ent
  have hmk := fun W => run_makeN (P := Try.prog) 56 105 i0 (.agg #[.slice none 0 0, .slice none 0 0]) Try.underlying56 hi hz0 .i64 .i64 n n (Nat.le_refl _) (by rw [hz2]; omega) (by omega) W
  rw [hz1, zeroE_made es (fun _ => 0) (fun _ => 0)] at hmk
  have HEL := Lib.hid (ens_len hs hn)
  clear hi hz0 hz1 hz2
  go_enter Try.func69, Try.ntmps69
  go_wp2
  go_loopw [4] (fun i wr => ∃ (k : Nat) (gs js : Nat → Nat), k ≤ n ∧ i = .int .i64 k ∧ Blk wr w.heap.size 105 (entCells es gs js n k).toArray ∧ LaidE wr w.heap.size es gs js k ∧ Below w.heap.size w wr) (fun i _ => n - (intOf i).toNat)
  case atStart => exact ⟨0, fun _ => 0, fun _ => 0, Nat.zero_le _, rfl, Blk.new _ _ _, fun j hj => absurd hj (by omega), by (repeat' (first | (with_reducible exact Below.refl _ _) | (with_reducible assumption) | (with_reducible refine Below.alloc ?_ ?_ _) | (with_reducible refine Below.drew ?_) | (with_reducible refine belowDrewN ?_ _) | (with_reducible refine Below.setCell ?_ ?_ _) | (with_reducible refine Below.via (by with_reducible assumption) ?_ ?_) | (with_reducible refine Below.viaD (by with_reducible assumption) ?_ ?_) | (with_reducible exact Below.size (by with_reducible assumption)) | go_size | (with_reducible refine Nat.le_trans ?_ (Below.size (by with_reducible assumption))) | (with_reducible refine Nat.le_trans ?_ (sizeAlloc _ _)) | (with_reducible refine Nat.le_trans ?_ (sizeSet _ _ _)) | (with_reducible refine Nat.le_trans ?_ (sizeDrew _))))⟩
  case round =>
    obtain ⟨k, gs, js, hk, rfl, hblk, hlaid, hbl⟩ := hrel
    by_cases hlt : k < n
    · obtain ⟨b, off, ps, cs, A1, m, c', A2, m2, c2', rfl, hb', HL, k0, k1, hsl, hsl2, hm, hm2⟩ := (hs.below hbl).row hlt
      have hel := HEL.out k hlt
      rw [HL.out] at hel
      simp only at hel
      have hml : Hid (ps.length = m) := by unfold Hid; exact hsl.ints
      have hml2 : Hid (cs.length / 3 = m2) := by unfold Hid; have := hsl2.cnt; omega
      have hmb : m ≤ 1048576 := by have := hml.out; omega
      have hmb2 : m2 ≤ 1048576 := by have := hml2.out; omega
      have hs2 := Lib.hid (hsl.mono hbl.size)
      have hs3 := Lib.hid (hsl2.mono hbl.size)
      have hbs := hbl.size
      have hlt0 := hblk.lt
      have HB := Lib.hid hblk
      have HD := Lib.hid hlaid
      clear hblk hlaid hsl hsl2 hm hm2 hel
      go_wp2_with fail
      refine (toEnt_any A1 A2 m c' m2 c2' ps cs _ hs2.out hs3.out hmb hmb2).mono ?_
      rintro e w1 ⟨g1, g2, rfl, hg1, hg2, ho1, ho2, hb1⟩
      have hk1 := HB.out.later hb1
      have q0 : w1.cell? ⟨w.heap.size, k * 2, none⟩ = some (.slice none 0 0) := by rw [hk1.cell, List.getElem?_toArray, entCells_at _ _ _ (by omega), entF, if_neg (by omega)]
      have q1 : w1.cell? ⟨w.heap.size, k * 2 + 1, none⟩ = some (.slice none 0 0) := by rw [hk1.cell, List.getElem?_toArray, entCells_at _ _ _ (by omega), entF, if_neg (by omega)]
      have f0 := hk1.free (k * 2)
      have f1 := hk1.free (k * 2 + 1)
      have HB1 := Lib.hid hk1
      have HO1 := Lib.hid ho1
      have HO2 := Lib.hid ho2
      have hbs1 := hb1.size
      clear hk1 ho1 ho2
      go_wp2_with fail
      go_roundw
      case rel =>
        refine ⟨k + 1, fun j => if j = k then g1 else gs j, fun j => if j = k then g2 else js j, by omega, by go_num, ?_, ?_, by (repeat' (first | (with_reducible exact Below.refl _ _) | (with_reducible assumption) | (with_reducible refine Below.alloc ?_ ?_ _) | (with_reducible refine Below.drew ?_) | (with_reducible refine belowDrewN ?_ _) | (with_reducible refine Below.setCell ?_ ?_ _) | (with_reducible refine Below.via (by with_reducible assumption) ?_ ?_) | (with_reducible refine Below.viaD (by with_reducible assumption) ?_ ?_) | (with_reducible exact Below.size (by with_reducible assumption)) | go_size | (with_reducible refine Nat.le_trans ?_ (Below.size (by with_reducible assumption))) | (with_reducible refine Nat.le_trans ?_ (sizeAlloc _ _)) | (with_reducible refine Nat.le_trans ?_ (sizeSet _ _ _)) | (with_reducible refine Nat.le_trans ?_ (sizeDrew _))))⟩
        · rw [← entCells_set es gs js hlt HL.out hml.out hml2.out]
          exact ((HB1.out.set _ _).set _ _)
        · have hD1 : LaidE w1 w.heap.size es (fun j => if j = k then g1 else gs j) (fun j => if j = k then g2 else js j) (k + 1) := by
            intro j hj
            by_cases hjk : j = k
            · subst hjk
              refine ⟨?_, ?_, ?_, ?_⟩
              · show w.heap.size < (if j = j then g1 else gs j)
                rw [if_pos rfl]; omega
              · show w.heap.size < (if j = j then g2 else js j)
                rw [if_pos rfl]; omega
              · show Blk _ (if j = j then g1 else gs j) _ _
                rw [if_pos rfl, HL.out]; exact HO1.out
              · show Blk _ (if j = j then g2 else js j) _ _
                rw [if_pos rfl, HL.out]; exact HO2.out
            · simp only [if_neg hjk]
              exact (HD.out.later hb1) j (by omega)
          exact (hD1.set rfl _).set rfl _
      case measure => first | (simp [intOf]; done) | (simp [intOf]; omega)
    · obtain rfl : k = n := by omega
      go_wp2
      go_ret
      refine ⟨_, rfl, Nat.le_refl _, laid_ens hblk hlaid hs.len ?_, hbl⟩
      intro j hj
      have := HEL.out j hj
      omega
end Go.Proofs.Ytpcenpedbdenmaa
