/- Entries of a book as data: lists of entries, opened, measured. Conditions: lengths below 2^63. -/
import Derived.Test.YtpcenpedbdenmaaSS
import Derived.Test.YtpcenpedbdenmaaFlatV
import Derived.Test.YtpcenpedbdenmaaRuOk
namespace Go.Proofs.Ytpcenpedbdenmaa
set_option linter.unusedSimpArgs false
set_option linter.unusedVariables false
open Go.RowKit Go.WideShapes Go.ChangeShapes Go.Deep

/-- What an entry holds: pits, and choices laid flat. -/
structure EntR where
  ps : List Int
  cs : List Int
def dE : EntR := ⟨[], []⟩
/-- The entries lie in a slice: two cells each. -/
structure Ens (w : World) (B : Nat) (A : Option Addr) (n : Nat) (es : List EntR) : Prop where
  len : es.length = n
  at_ : 0 < n → ∃ b off, A = some ⟨b, off, none⟩ ∧ b < B ∧ ∀ j, j < n → ∃ (A1 : Option Addr) (m c : Nat) (A2 : Option Addr) (m2 c2 : Nat), w.cell? ⟨b, off + j * 2, none⟩ = some (.slice A1 m c) ∧ w.cell? ⟨b, off + j * 2 + 1, none⟩ = some (.slice A2 m2 c2) ∧ Sl w B 1 A1 m ((es.getD j dE).ps.map (Value.int .i64)) ∧ Sl w B 3 A2 m2 ((es.getD j dE).cs.map (Value.int .i64)) ∧ m ≤ 9223372036854775807 ∧ m2 ≤ 9223372036854775807
section
variable {w w' : World} {B B' n : Nat} {A : Option Addr} {es : List EntR}
theorem Ens.keep (h : Ens w B A n es) (hk : ∀ b o, b < B → w'.cell? ⟨b, o, none⟩ = w.cell? ⟨b, o, none⟩) : Ens w' B A n es :=
  ⟨h.1, fun hn => by
    obtain ⟨b, off, e, hb, hc⟩ := h.2 hn
    refine ⟨b, off, e, hb, fun j hj => ?_⟩
    obtain ⟨A1, m, c, A2, m2, c2, h0, h1, h2, h3, h4, h5⟩ := hc j hj
    exact ⟨A1, m, c, A2, m2, c2, (hk _ _ hb).trans h0, (hk _ _ hb).trans h1, h2.keep hk, h3.keep hk, h4, h5⟩⟩
theorem Ens.mono (h : Ens w B A n es) (hB : B ≤ B') : Ens w B' A n es :=
  ⟨h.1, fun hn => by
    obtain ⟨b, off, e, hb, hc⟩ := h.2 hn
    refine ⟨b, off, e, Nat.lt_of_lt_of_le hb hB, fun j hj => ?_⟩
    obtain ⟨A1, m, c, A2, m2, c2, h0, h1, h2, h3, h4, h5⟩ := hc j hj
    exact ⟨A1, m, c, A2, m2, c2, h0, h1, h2.mono hB, h3.mono hB, h4, h5⟩⟩
theorem Ens.below (h : Ens w B A n es) (hb : Below B w w') : Ens w' B A n es := h.keep fun _ _ hp => hb.cell hp
theorem Ens.later (h : Ens w w.heap.size A n es) (hb : Below w.heap.size w w') : Ens w' w'.heap.size A n es := (h.below hb).mono hb.size
theorem Ens.drew (h : Ens w B A n es) : Ens w.drew B A n es := h.keep (fun _ _ _ => rfl)
theorem Ens.drewN (h : Ens w B A n es) (k : Nat) : Ens (w.drewN k) B A n es := h.keep (fun _ _ _ => rfl)
theorem Ens.boxed (h : Ens w w.heap.size A n es) (o : Obj) : Ens (w.alloc o) (w.alloc o).heap.size A n es := h.later (boxed_ w o)
/-- The entry at a place, its parts named. -/
theorem Ens.row (h : Ens w B A n es) {k : Nat} (hk : k < n) : ∃ b off ps cs A1 m c A2 m2 c2, A = some ⟨b, off, none⟩ ∧ b < B ∧ Hid (es.getD k dE = ⟨ps, cs⟩) ∧ w.cell? ⟨b, off + k * 2, none⟩ = some (.slice A1 m c) ∧ w.cell? ⟨b, off + k * 2 + 1, none⟩ = some (.slice A2 m2 c2) ∧ Sl w B 1 A1 m (ps.map (Value.int .i64)) ∧ Sl w B 3 A2 m2 (cs.map (Value.int .i64)) ∧ m ≤ 9223372036854775807 ∧ m2 ≤ 9223372036854775807 := by
  obtain ⟨b, off, e, hb, hc⟩ := h.2 (by omega)
  obtain ⟨A1, m, c, A2, m2, c2, h0, h1, h2, h3, h4, h5⟩ := hc k hk
  exact ⟨b, off, _, _, A1, m, c, A2, m2, c2, e, hb, rfl, h0, h1, h2, h3, h4, h5⟩
end
theorem Sl.cnt {w : World} {B n m : Nat} {A : Option Addr} {zs : List Int} (h : Sl w B m A n (zs.map (Value.int .i64))) : zs.length = n * m := by
  have hl := h.1
  rwa [List.length_map] at hl
section
variable {H : Type} {enc : TypeId × Value → H} {w : World} {spare : Nat → Bool} {held : Bool}
theorem rows_ents {n : Nat} {A : Option Addr} {xs : List Value} (hs : Sl w w.heap.size 2 A n xs)
    (h : ∀ i, i < n → ∃ (f : Nat) (y : DataW H × List MemPlace), DataW.trod enc Try.prog w 0 spare held f 121 ((xs.drop (i * 2)).take 2) = some y) : ∃ es, Ens w w.heap.size A n es := by
  have hx : ∀ i, i < n → ∃ (s : EntR) (A1 : Option Addr) (m c : Nat) (A2 : Option Addr) (m2 c2 : Nat), xs[i * 2]? = some (.slice A1 m c) ∧ xs[i * 2 + 1]? = some (.slice A2 m2 c2) ∧ Sl w w.heap.size 1 A1 m (s.ps.map (Value.int .i64)) ∧ Sl w w.heap.size 3 A2 m2 (s.cs.map (Value.int .i64)) ∧ m ≤ 9223372036854775807 ∧ m2 ≤ 9223372036854775807 := by
    intro i hi
    obtain ⟨c0, _, _, e0, y0⟩ := row_cell (j := 0) Try.underlying121 (by kernel_rfl) rfl hs.1 h hi rfl
    obtain ⟨c1, _, _, e1, y1⟩ := row_cell (j := 1) Try.underlying121 (by kernel_rfl) rfl hs.1 h hi rfl
    obtain ⟨A1, m, c, ys, rfl, hmc, hcm, hsl, hr⟩ := leaf_row Try.underlying44 (by kernel_rfl : Try.prog.cellsOf 2 = 1) (by omega) y0
    obtain ⟨zs, rfl, _⟩ := row_ints Try.underlying2 hsl.1 hr
    obtain ⟨A2, m2, c2, ys2, rfl, hmc2, hcm2, hsl2, hr2⟩ := leaf_row Try.underlying119 (by kernel_rfl : Try.prog.cellsOf 134 = 3) (by omega) y1
    obtain ⟨zs2, rfl, _⟩ := row_flats (size := 3) Try.underlying134 (by kernel_rfl) rfl (by omega) (by intro f hf; simp at hf; rcases hf with rfl | rfl | rfl <;> exact Try.underlying2) hsl2.1 hr2
    exact ⟨⟨zs, zs2⟩, A1, m, c, A2, m2, c2, e0, e1, hsl, hsl2, Nat.le_trans hmc hcm, Nat.le_trans hmc2 hcm2⟩
  let g : Nat → EntR := fun i => if q : i < n then Classical.choose (hx i q) else dE
  refine ⟨(List.range n).map g, by simp, fun hn => ?_⟩
  obtain ⟨b, off, e, hb, hc⟩ := hs.2 hn
  refine ⟨b, off, e, hb, fun j hj => ?_⟩
  obtain ⟨A1, m, c, A2, m2, c2, h0, h1, h2, h3, h4, h5⟩ := Classical.choose_spec (hx j hj)
  have e2 : ((List.range n).map g).getD j dE = Classical.choose (hx j hj) := by
    rw [List.getD_eq_getElem?_getD, List.getElem?_map, List.getElem?_range hj]
    simp only [Option.map_some, Option.getD_some, g, dif_pos hj]
  rw [e2]
  refine ⟨A1, m, c, A2, m2, c2, hc _ _ h0, ?_, h2, h3, h4, h5⟩
  have := hc _ _ h1; rwa [← Nat.add_assoc] at this
end
/-- Lists as long as the entries' parts together. -/
def lensE (es : List EntR) : List (List Int) := es.map fun e => e.ps ++ List.replicate (e.cs.length / 3) 0
theorem lensE_at (es : List EntR) (k : Nat) : ((lensE es).getD k []).length = (es.getD k dE).ps.length + (es.getD k dE).cs.length / 3 := by
  rw [lensE, List.getD_eq_getElem?_getD, List.getD_eq_getElem?_getD, List.getElem?_map]
  cases es[k]? with
  | none => rfl
  | some e => simp
theorem szChoiceS_le (A : Option Addr) (m c : Nat) (left : Int) (w : World) (h1 : (m : Int) ≤ left) (h2 : left ≤ 1048576) :
    Calls Try.prog 95 #[.slice A m c, .int .i64 left] w fun e w' => e = .returned (.int .i64 (left - (m : Nat))) ∧ w = w' := by
  go_enter Try.func95, Try.ntmps95
  go_wp2
  go_ret
  exact ⟨rfl, rfl⟩
theorem szChoiceS_gt (A : Option Addr) (m c : Nat) (left : Int) (w : World) (h1 : left < (m : Int)) (h2 : 0 ≤ left) (hm : m ≤ 9223372036854775807) :
    Calls Try.prog 95 #[.slice A m c, .int .i64 left] w fun e w' => e = .returned (.int .i64 (-1)) ∧ w = w' := by
  go_enter Try.func95, Try.ntmps95
  go_wp2
  go_ret
  exact ⟨rfl, rfl⟩
theorem szEnt_le (A A2 : Option Addr) (m c m2 c2 : Nat) (left : Int) (w : World) (h1 : ((m + m2 : Nat) : Int) ≤ left) (h2 : left ≤ 1048576) :
    Calls Try.prog 87 #[.agg #[.slice A m c, .slice A2 m2 c2], .int .i64 left] w fun e w' => e = .returned (.int .i64 (left - (m : Nat) - (m2 : Nat))) ∧ Below w.heap.size w w' := by
  go_enter Try.func87, Try.ntmps87
  go_wp2_with (first | (go_at_call 55; refine (szInt64S_le A m c left _ (by omega) h2).mono ?_; rintro e w_ ⟨rfl, rfl⟩) | (go_at_call 95; refine (szChoiceS_le A2 m2 c2 (left - (m : Nat)) _ (by omega) (by omega)).mono ?_; rintro e w_ ⟨rfl, rfl⟩))
  go_ret
  exact ⟨rfl, by (repeat' (first | (with_reducible exact Below.refl _ _) | (with_reducible assumption) | (with_reducible refine Below.alloc ?_ ?_ _) | (with_reducible refine Below.drew ?_) | (with_reducible refine belowDrewN ?_ _) | (with_reducible refine Below.setCell ?_ ?_ _) | (with_reducible refine Below.via (by with_reducible assumption) ?_ ?_) | (with_reducible refine Below.viaD (by with_reducible assumption) ?_ ?_) | (with_reducible exact Below.size (by with_reducible assumption)) | go_size | (with_reducible refine Nat.le_trans ?_ (Below.size (by with_reducible assumption))) | (with_reducible refine Nat.le_trans ?_ (sizeAlloc _ _)) | (with_reducible refine Nat.le_trans ?_ (sizeSet _ _ _)) | (with_reducible refine Nat.le_trans ?_ (sizeDrew _))))⟩
theorem szEnt_gt (A A2 : Option Addr) (m c m2 c2 : Nat) (left : Int) (w : World) (h1 : left < ((m + m2 : Nat) : Int)) (h0 : 0 ≤ left) (h2 : left ≤ 1048576) (hm : m ≤ 9223372036854775807) (hm2 : m2 ≤ 9223372036854775807) :
    Calls Try.prog 87 #[.agg #[.slice A m c, .slice A2 m2 c2], .int .i64 left] w fun e w' => e = .returned (.int .i64 (-1)) ∧ Below w.heap.size w w' := by
  by_cases hq : (m : Int) ≤ left
  · go_enter Try.func87, Try.ntmps87
    go_wp2_with (first | (go_at_call 55; refine (szInt64S_le A m c left _ hq h2).mono ?_; rintro e w_ ⟨rfl, rfl⟩) | (go_at_call 95; refine (szChoiceS_gt A2 m2 c2 (left - (m : Nat)) _ (by omega) (by omega) hm2).mono ?_; rintro e w_ ⟨rfl, rfl⟩))
    go_ret
    exact ⟨rfl, by (repeat' (first | (with_reducible exact Below.refl _ _) | (with_reducible assumption) | (with_reducible refine Below.alloc ?_ ?_ _) | (with_reducible refine Below.drew ?_) | (with_reducible refine belowDrewN ?_ _) | (with_reducible refine Below.setCell ?_ ?_ _) | (with_reducible refine Below.via (by with_reducible assumption) ?_ ?_) | (with_reducible refine Below.viaD (by with_reducible assumption) ?_ ?_) | (with_reducible exact Below.size (by with_reducible assumption)) | go_size | (with_reducible refine Nat.le_trans ?_ (Below.size (by with_reducible assumption))) | (with_reducible refine Nat.le_trans ?_ (sizeAlloc _ _)) | (with_reducible refine Nat.le_trans ?_ (sizeSet _ _ _)) | (with_reducible refine Nat.le_trans ?_ (sizeDrew _))))⟩
  · go_enter Try.func87, Try.ntmps87
    go_wp2_with (go_at_call 55; refine (szInt64S_gt A m c left _ (by omega) h0 hm).mono ?_; rintro e w_ ⟨rfl, rfl⟩)
    go_ret
    exact ⟨rfl, by (repeat' (first | (with_reducible exact Below.refl _ _) | (with_reducible assumption) | (with_reducible refine Below.alloc ?_ ?_ _) | (with_reducible refine Below.drew ?_) | (with_reducible refine belowDrewN ?_ _) | (with_reducible refine Below.setCell ?_ ?_ _) | (with_reducible refine Below.via (by with_reducible assumption) ?_ ?_) | (with_reducible refine Below.viaD (by with_reducible assumption) ?_ ?_) | (with_reducible exact Below.size (by with_reducible assumption)) | go_size | (with_reducible refine Nat.le_trans ?_ (Below.size (by with_reducible assumption))) | (with_reducible refine Nat.le_trans ?_ (sizeAlloc _ _)) | (with_reducible refine Nat.le_trans ?_ (sizeSet _ _ _)) | (with_reducible refine Nat.le_trans ?_ (sizeDrew _))))⟩
set_option maxHeartbeats 1000000 in
theorem szEnts_any (A : Option Addr) (n c : Nat) (es : List EntR) (left : Int) (w : World) (hs : Ens w w.heap.size A n es) (hn : n ≤ 9223372036854775807) (h1 : left ≤ 1048576) (h0 : 0 ≤ left) :
    Calls Try.prog 67 #[.slice A n c, .int .i64 left] w fun e w' => e = .returned (.int .i64 (SzR (lensE es) n left)) ∧ Below w.heap.size w w' := by
  obtain ⟨r, hr⟩ : ∃ r, SzR (lensE es) n left = r := ⟨_, rfl⟩
  have HR := Lib.hid hr
  clear hr
  rw [HR.out]
  by_cases hb : (n : Int) ≤ left
  case neg =>
    have hq : Hid (r = -1) := by unfold Hid; rw [← HR.out, SzR, if_neg (by omega)]
    go_enter Try.func67, Try.ntmps67
    go_wp2
    go_ret
    exact ⟨by rw [hq.out]; rfl, by (repeat' (first | (with_reducible exact Below.refl _ _) | (with_reducible assumption) | (with_reducible refine Below.alloc ?_ ?_ _) | (with_reducible refine Below.drew ?_) | (with_reducible refine belowDrewN ?_ _) | (with_reducible refine Below.setCell ?_ ?_ _) | (with_reducible refine Below.via (by with_reducible assumption) ?_ ?_) | (with_reducible refine Below.viaD (by with_reducible assumption) ?_ ?_) | (with_reducible exact Below.size (by with_reducible assumption)) | go_size | (with_reducible refine Nat.le_trans ?_ (Below.size (by with_reducible assumption))) | (with_reducible refine Nat.le_trans ?_ (sizeAlloc _ _)) | (with_reducible refine Nat.le_trans ?_ (sizeSet _ _ _)) | (with_reducible refine Nat.le_trans ?_ (sizeDrew _))))⟩
  case pos =>
    go_enter Try.func67, Try.ntmps67
    go_wp2
    go_loopw [1, 5] (fun l i wr => ∃ k : Nat, k ≤ n ∧ i = .int .i64 k ∧ l = .int .i64 (left - (n : Nat) - (sumLen (lensE es) k : Nat)) ∧ Hid (((n + sumLen (lensE es) k : Nat) : Int) ≤ left) ∧ Below w.heap.size w wr) (fun _ i _ => n - (intOf i).toNat)
    case atStart => exact ⟨0, Nat.zero_le _, rfl, by simp [sumLen], by unfold Hid; simp [sumLen]; exact hb, by (repeat' (first | (with_reducible exact Below.refl _ _) | (with_reducible assumption) | (with_reducible refine Below.alloc ?_ ?_ _) | (with_reducible refine Below.drew ?_) | (with_reducible refine belowDrewN ?_ _) | (with_reducible refine Below.setCell ?_ ?_ _) | (with_reducible refine Below.via (by with_reducible assumption) ?_ ?_) | (with_reducible refine Below.viaD (by with_reducible assumption) ?_ ?_) | (with_reducible exact Below.size (by with_reducible assumption)) | go_size | (with_reducible refine Nat.le_trans ?_ (Below.size (by with_reducible assumption))) | (with_reducible refine Nat.le_trans ?_ (sizeAlloc _ _)) | (with_reducible refine Nat.le_trans ?_ (sizeSet _ _ _)) | (with_reducible refine Nat.le_trans ?_ (sizeDrew _))))⟩
    case round =>
      obtain ⟨k, hk, rfl, rfl, HK, hbl⟩ := hrel
      by_cases hlt : k < n
      · obtain ⟨b, off, ps, cs, A1, m, c', A2, m2, c2', rfl, hb', HL, k0, k1, hsl, hsl2, hm, hm2⟩ := (hs.below hbl).row hlt
        have hlm : Hid (sumLen (lensE es) (k + 1) = sumLen (lensE es) k + (m + m2)) := by
          unfold Hid
          have hx := hsl2.cnt
          rw [sumLen, lensE_at, HL.out, ← hsl.ints]
          simp only [hx]
          omega
        have hsm := Lib.hid (sumLen_mono (lensE es) (j := k + 1) hlt)
        obtain ⟨u, hu⟩ : ∃ u, sumLen (lensE es) k = u := ⟨_, rfl⟩
        rw [hu]
        have HU := Lib.hid hu
        have hku := HK.out
        rw [hu] at hku
        clear hu hsl hsl2
        by_cases hov : ((m + m2 : Nat) : Int) ≤ left - (n : Nat) - (u : Nat)
        · go_wp2_with (go_at_call 87; refine (szEnt_le A1 A2 m c' m2 c2' (left - (n : Nat) - (u : Nat)) _ hov (by omega)).mono ?_; rintro e w_ ⟨rfl, hb_⟩)
          go_roundw
          case rel =>
            refine ⟨k + 1, by omega, by go_num, ?_, ?_, by (repeat' (first | (with_reducible exact Below.refl _ _) | (with_reducible assumption) | (with_reducible refine Below.alloc ?_ ?_ _) | (with_reducible refine Below.drew ?_) | (with_reducible refine belowDrewN ?_ _) | (with_reducible refine Below.setCell ?_ ?_ _) | (with_reducible refine Below.via (by with_reducible assumption) ?_ ?_) | (with_reducible refine Below.viaD (by with_reducible assumption) ?_ ?_) | (with_reducible exact Below.size (by with_reducible assumption)) | go_size | (with_reducible refine Nat.le_trans ?_ (Below.size (by with_reducible assumption))) | (with_reducible refine Nat.le_trans ?_ (sizeAlloc _ _)) | (with_reducible refine Nat.le_trans ?_ (sizeSet _ _ _)) | (with_reducible refine Nat.le_trans ?_ (sizeDrew _))))⟩
            · rw [hlm.out, HU.out]; go_num
            · unfold Hid; rw [hlm.out, HU.out]; omega
          case measure => first | (simp [intOf]; done) | (simp [intOf]; omega)
        · have hq : Hid (r = -1) := by
            unfold Hid
            have h5 := hsm.out
            rw [hlm.out, HU.out] at h5
            rw [← HR.out, SzR, if_neg (by omega)]
          go_wp2_with (go_at_call 87; refine (szEnt_gt A1 A2 m c' m2 c2' (left - (n : Nat) - (u : Nat)) _ (by omega) (by omega) (by omega) hm hm2).mono ?_; rintro e w_ ⟨rfl, hb_⟩)
          go_ret
          exact ⟨by rw [hq.out]; rfl, by (repeat' (first | (with_reducible exact Below.refl _ _) | (with_reducible assumption) | (with_reducible refine Below.alloc ?_ ?_ _) | (with_reducible refine Below.drew ?_) | (with_reducible refine belowDrewN ?_ _) | (with_reducible refine Below.setCell ?_ ?_ _) | (with_reducible refine Below.via (by with_reducible assumption) ?_ ?_) | (with_reducible refine Below.viaD (by with_reducible assumption) ?_ ?_) | (with_reducible exact Below.size (by with_reducible assumption)) | go_size | (with_reducible refine Nat.le_trans ?_ (Below.size (by with_reducible assumption))) | (with_reducible refine Nat.le_trans ?_ (sizeAlloc _ _)) | (with_reducible refine Nat.le_trans ?_ (sizeSet _ _ _)) | (with_reducible refine Nat.le_trans ?_ (sizeDrew _))))⟩
      · obtain rfl : k = n := by omega
        go_wp2
        go_ret
        have hk2 := HK.out
        exact ⟨by rw [← HR.out, SzR, if_pos hk2, show left - ((k + sumLen (lensE es) k : Nat) : Int) = left - (k : Nat) - (sumLen (lensE es) k : Nat) from by omega]; rfl, by (repeat' (first | (with_reducible exact Below.refl _ _) | (with_reducible assumption) | (with_reducible refine Below.alloc ?_ ?_ _) | (with_reducible refine Below.drew ?_) | (with_reducible refine belowDrewN ?_ _) | (with_reducible refine Below.setCell ?_ ?_ _) | (with_reducible refine Below.via (by with_reducible assumption) ?_ ?_) | (with_reducible refine Below.viaD (by with_reducible assumption) ?_ ?_) | (with_reducible exact Below.size (by with_reducible assumption)) | go_size | (with_reducible refine Nat.le_trans ?_ (Below.size (by with_reducible assumption))) | (with_reducible refine Nat.le_trans ?_ (sizeAlloc _ _)) | (with_reducible refine Nat.le_trans ?_ (sizeSet _ _ _)) | (with_reducible refine Nat.le_trans ?_ (sizeDrew _))))⟩
/-- What a Book holds. -/
structure BookD where
  r : Ru
  es : List EntR
/-- The cells read as the data. -/
def XBook (w : World) (cs : List Value) (d : BookD) : Prop := ∃ (A : Option Addr) (n c : Nat), cs = [.int .i64 d.r.p, .int .i64 d.r.s, .bool d.r.st, .bool d.r.sk, .bool d.r.re, .bool d.r.fe, .bool d.r.ag, .int .i64 d.r.ca, .int .i64 d.r.sl, .slice A n c] ∧ Ens w w.heap.size A n d.es ∧ n ≤ 9223372036854775807
theorem szBook_any (r : Ru) (A : Option Addr) (n c : Nat) (es : List EntR) (left : Int) (w : World) (hs : Ens w w.heap.size A n es) (hn : n ≤ 9223372036854775807) (h1 : left ≤ 1048576) (h0 : 0 ≤ left) :
    Calls Try.prog 37 #[.agg #[.int .i64 r.p, .int .i64 r.s, .bool r.st, .bool r.sk, .bool r.re, .bool r.fe, .bool r.ag, .int .i64 r.ca, .int .i64 r.sl, .slice A n c], .int .i64 left] w fun e w' => e = .returned (.int .i64 (SzR (lensE es) n left)) ∧ Below w.heap.size w w' := by
  obtain ⟨q, hq⟩ : ∃ q, SzR (lensE es) n left = q := ⟨_, rfl⟩
  have HQ := Lib.hid hq
  have hq1 : 0 ≤ q ∨ q = -1 := by
    rw [← hq, SzR]; split
    · left; omega
    · right; rfl
  clear hq
  rw [HQ.out]
  by_cases hq0 : 0 ≤ q
  · go_enter Try.func37, Try.ntmps37
    go_wp2_with (go_at_call 67; refine (szEnts_any A n c es left _ (hs.boxed _) hn h1 h0).mono ?_; rintro e w_ ⟨rfl, hb_⟩; rw [HQ.out])
    go_ret
    exact ⟨rfl, by (repeat' (first | (with_reducible exact Below.refl _ _) | (with_reducible assumption) | (with_reducible refine Below.alloc ?_ ?_ _) | (with_reducible refine Below.drew ?_) | (with_reducible refine belowDrewN ?_ _) | (with_reducible refine Below.setCell ?_ ?_ _) | (with_reducible refine Below.via (by with_reducible assumption) ?_ ?_) | (with_reducible refine Below.viaD (by with_reducible assumption) ?_ ?_) | (with_reducible exact Below.size (by with_reducible assumption)) | go_size | (with_reducible refine Nat.le_trans ?_ (Below.size (by with_reducible assumption))) | (with_reducible refine Nat.le_trans ?_ (sizeAlloc _ _)) | (with_reducible refine Nat.le_trans ?_ (sizeSet _ _ _)) | (with_reducible refine Nat.le_trans ?_ (sizeDrew _))))⟩
  · obtain rfl : q = -1 := by omega
    go_enter Try.func37, Try.ntmps37
    go_wp2_with (go_at_call 67; refine (szEnts_any A n c es left _ (hs.boxed _) hn h1 h0).mono ?_; rintro e w_ ⟨rfl, hb_⟩; rw [HQ.out])
    go_ret
    exact ⟨rfl, by (repeat' (first | (with_reducible exact Below.refl _ _) | (with_reducible assumption) | (with_reducible refine Below.alloc ?_ ?_ _) | (with_reducible refine Below.drew ?_) | (with_reducible refine belowDrewN ?_ _) | (with_reducible refine Below.setCell ?_ ?_ _) | (with_reducible refine Below.via (by with_reducible assumption) ?_ ?_) | (with_reducible refine Below.viaD (by with_reducible assumption) ?_ ?_) | (with_reducible exact Below.size (by with_reducible assumption)) | go_size | (with_reducible refine Nat.le_trans ?_ (Below.size (by with_reducible assumption))) | (with_reducible refine Nat.le_trans ?_ (sizeAlloc _ _)) | (with_reducible refine Nat.le_trans ?_ (sizeSet _ _ _)) | (with_reducible refine Nat.le_trans ?_ (sizeDrew _))))⟩
end Go.Proofs.Ytpcenpedbdenmaa
