/- Slots of a memory as data: lists of slots, opened, measured. Conditions: lengths below 2^63. -/
import Derived.Test.YtpcenpedbdenmaaSS
import Derived.Test.YtpcenpedbdenmaaFlatV
import Derived.Test.YtpcenpedbdenmaaRuOk
namespace Go.Proofs.Ytpcenpedbdenmaa
set_option linter.unusedSimpArgs false
set_option linter.unusedVariables false
open Go.RowKit Go.WideShapes Go.ChangeShapes Go.Deep

/-- What a slot holds. -/
structure SlotR where
  u : Bool
  ps : List Int
  p : Int
  d : Int
  v : Int
  b : Int
def dS : SlotR := ⟨false, [], 0, 0, 0, 0⟩
/-- A slot's cells lie at a place. -/
structure SlAt (w : World) (b o : Nat) (s : SlotR) (A : Option Addr) (m c : Nat) : Prop where
  c0 : w.cell? ⟨b, o, none⟩ = some (.bool s.u)
  c1 : w.cell? ⟨b, o + 1, none⟩ = some (.slice A m c)
  c2 : w.cell? ⟨b, o + 2, none⟩ = some (.int .i64 s.p)
  c3 : w.cell? ⟨b, o + 3, none⟩ = some (.int .i64 s.d)
  c4 : w.cell? ⟨b, o + 4, none⟩ = some (.int .i64 s.v)
  c5 : w.cell? ⟨b, o + 5, none⟩ = some (.int .i64 s.b)
/-- The slice value holds slots that read as the data. -/
structure Sls (w : World) (B : Nat) (A : Option Addr) (n : Nat) (ss : List SlotR) : Prop where
  len : ss.length = n
  at_ : 0 < n → ∃ b off, A = some ⟨b, off, none⟩ ∧ b < B ∧ ∀ j, j < n → ∃ (A' : Option Addr) (m c : Nat), SlAt w b (off + j * 6) (ss.getD j dS) A' m c ∧ Sl w B 1 A' m ((ss.getD j dS).ps.map (Value.int .i64)) ∧ m ≤ 9223372036854775807
section
variable {w w' : World} {B B' n : Nat} {A : Option Addr} {ss : List SlotR}
theorem SlAt.keep {b o : Nat} {s : SlotR} {m c : Nat} (h : SlAt w b o s A m c) (hk : ∀ o, w'.cell? ⟨b, o, none⟩ = w.cell? ⟨b, o, none⟩) : SlAt w' b o s A m c :=
  ⟨(hk _).trans h.1, (hk _).trans h.2, (hk _).trans h.3, (hk _).trans h.4, (hk _).trans h.5, (hk _).trans h.6⟩
theorem Sls.keep (h : Sls w B A n ss) (hk : ∀ b o, b < B → w'.cell? ⟨b, o, none⟩ = w.cell? ⟨b, o, none⟩) : Sls w' B A n ss :=
  ⟨h.1, fun hn => by
    obtain ⟨b, off, e, hb, hc⟩ := h.2 hn
    refine ⟨b, off, e, hb, fun j hj => ?_⟩
    obtain ⟨A', m, c, h1, h2, h3⟩ := hc j hj
    exact ⟨A', m, c, h1.keep (fun o => hk _ o hb), h2.keep hk, h3⟩⟩
theorem Sls.mono (h : Sls w B A n ss) (hB : B ≤ B') : Sls w B' A n ss :=
  ⟨h.1, fun hn => by
    obtain ⟨b, off, e, hb, hc⟩ := h.2 hn
    refine ⟨b, off, e, Nat.lt_of_lt_of_le hb hB, fun j hj => ?_⟩
    obtain ⟨A', m, c, h1, h2, h3⟩ := hc j hj
    exact ⟨A', m, c, h1, h2.mono hB, h3⟩⟩
theorem Sls.below (h : Sls w B A n ss) (hb : Below B w w') : Sls w' B A n ss := h.keep fun _ _ hp => hb.cell hp
theorem Sls.later (h : Sls w w.heap.size A n ss) (hb : Below w.heap.size w w') : Sls w' w'.heap.size A n ss := (h.below hb).mono hb.size
theorem Sls.drew (h : Sls w B A n ss) : Sls w.drew B A n ss := h.keep (fun _ _ _ => rfl)
theorem Sls.drewN (h : Sls w B A n ss) (k : Nat) : Sls (w.drewN k) B A n ss := h.keep (fun _ _ _ => rfl)
theorem Sls.boxed (h : Sls w w.heap.size A n ss) (o : Obj) : Sls (w.alloc o) (w.alloc o).heap.size A n ss := h.later (boxed_ w o)
/-- The slot at a place, its parts named. -/
theorem Sls.row (h : Sls w B A n ss) {k : Nat} (hk : k < n) : ∃ b off u ps p d v bd A' m c, A = some ⟨b, off, none⟩ ∧ b < B ∧ Hid (ss.getD k dS = ⟨u, ps, p, d, v, bd⟩) ∧ SlAt w b (off + k * 6) ⟨u, ps, p, d, v, bd⟩ A' m c ∧ Sl w B 1 A' m (ps.map (Value.int .i64)) ∧ m ≤ 9223372036854775807 := by
  obtain ⟨b, off, e, hb, hc⟩ := h.2 (by omega)
  obtain ⟨A', m, c, h1, h2, h3⟩ := hc k hk
  exact ⟨b, off, _, _, _, _, _, _, A', m, c, e, hb, rfl, h1, h2, h3⟩
end
section
variable {H : Type} {enc : TypeId × Value → H} {w : World} {spare : Nat → Bool} {held : Bool}
theorem rows_slots {n : Nat} {A : Option Addr} {xs : List Value} (hs : Sl w w.heap.size 6 A n xs)
    (h : ∀ i, i < n → ∃ (f : Nat) (y : DataW H × List MemPlace), DataW.trod enc Try.prog w 0 spare held f 109 ((xs.drop (i * 6)).take 6) = some y) : ∃ ss, Sls w w.heap.size A n ss := by
  have hx : ∀ i, i < n → ∃ (s : SlotR) (A' : Option Addr) (m c : Nat), xs[i * 6]? = some (.bool s.u) ∧ xs[i * 6 + 1]? = some (.slice A' m c) ∧ xs[i * 6 + 2]? = some (.int .i64 s.p) ∧ xs[i * 6 + 3]? = some (.int .i64 s.d) ∧ xs[i * 6 + 4]? = some (.int .i64 s.v) ∧ xs[i * 6 + 5]? = some (.int .i64 s.b) ∧ Sl w w.heap.size 1 A' m (s.ps.map (Value.int .i64)) ∧ m ≤ 9223372036854775807 := by
    intro i hi
    obtain ⟨c0, _, _, e0, y0⟩ := row_cell (j := 0) Try.underlying109 (by kernel_rfl) rfl hs.1 h hi rfl
    obtain ⟨c1, _, _, e1, y1⟩ := row_cell (j := 1) Try.underlying109 (by kernel_rfl) rfl hs.1 h hi rfl
    obtain ⟨c2, _, _, e2, y2⟩ := row_cell (j := 2) Try.underlying109 (by kernel_rfl) rfl hs.1 h hi rfl
    obtain ⟨c3, _, _, e3, y3⟩ := row_cell (j := 3) Try.underlying109 (by kernel_rfl) rfl hs.1 h hi rfl
    obtain ⟨c4, _, _, e4, y4⟩ := row_cell (j := 4) Try.underlying109 (by kernel_rfl) rfl hs.1 h hi rfl
    obtain ⟨c5, _, _, e5, y5⟩ := row_cell (j := 5) Try.underlying109 (by kernel_rfl) rfl hs.1 h hi rfl
    obtain ⟨b0, rfl⟩ := leaf_bool Try.underlying4 y0
    obtain ⟨A', m, c, ys, rfl, hmc, hcm, hsl, hr⟩ := leaf_row Try.underlying44 (by kernel_rfl : Try.prog.cellsOf 2 = 1) (by omega) y1
    obtain ⟨zs, rfl, _⟩ := row_ints Try.underlying2 hsl.1 hr
    obtain ⟨b2, rfl, _⟩ := leaf_int Try.underlying2 y2
    obtain ⟨b3, rfl, _⟩ := leaf_int Try.underlying2 y3
    obtain ⟨b4, rfl, _⟩ := leaf_int Try.underlying2 y4
    obtain ⟨b5, rfl, _⟩ := leaf_int Try.underlying2 y5
    exact ⟨⟨b0, zs, b2, b3, b4, b5⟩, A', m, c, e0, e1, e2, e3, e4, e5, hsl, Nat.le_trans hmc hcm⟩
  let g : Nat → SlotR := fun i => if q : i < n then Classical.choose (hx i q) else dS
  refine ⟨(List.range n).map g, by simp, fun hn => ?_⟩
  obtain ⟨b, off, e, hb, hc⟩ := hs.2 hn
  refine ⟨b, off, e, hb, fun j hj => ?_⟩
  obtain ⟨A', m, c, h0, h1, h2, h3, h4, h5, h6, h7⟩ := Classical.choose_spec (hx j hj)
  have e2 : ((List.range n).map g).getD j dS = Classical.choose (hx j hj) := by
    rw [List.getD_eq_getElem?_getD, List.getElem?_map, List.getElem?_range hj]
    simp only [Option.map_some, Option.getD_some, g, dif_pos hj]
  rw [e2]
  refine ⟨A', m, c, ⟨hc _ _ h0, ?_, ?_, ?_, ?_, ?_⟩, h6, h7⟩
  · have := hc _ _ h1; rwa [← Nat.add_assoc] at this
  · have := hc _ _ h2; rwa [← Nat.add_assoc] at this
  · have := hc _ _ h3; rwa [← Nat.add_assoc] at this
  · have := hc _ _ h4; rwa [← Nat.add_assoc] at this
  · have := hc _ _ h5; rwa [← Nat.add_assoc] at this
end
/-- The lists of the slots. -/
def pssOf (ss : List SlotR) : List (List Int) := ss.map (·.ps)
theorem pssOf_at (ss : List SlotR) (k : Nat) : (pssOf ss).getD k [] = (ss.getD k dS).ps := by
  rw [pssOf, List.getD_eq_getElem?_getD, List.getD_eq_getElem?_getD, List.getElem?_map]
  cases ss[k]? <;> rfl
theorem szSlot_le (u : Bool) (A : Option Addr) (m c : Nat) (p d v b left : Int) (w : World) (h1 : (m : Int) ≤ left) (h2 : left ≤ 1048576) :
    Calls Try.prog 75 #[.agg #[.bool u, .slice A m c, .int .i64 p, .int .i64 d, .int .i64 v, .int .i64 b], .int .i64 left] w fun e w' => e = .returned (.int .i64 (left - (m : Nat))) ∧ Below w.heap.size w w' := by
  go_enter Try.func75, Try.ntmps75
  go_wp2_with (go_at_call 55; refine (szInt64S_le A m c left _ h1 h2).mono ?_; rintro e w_ ⟨rfl, rfl⟩)
  go_ret
  exact ⟨rfl, by (repeat' (first | (with_reducible exact Below.refl _ _) | (with_reducible assumption) | (with_reducible refine Below.alloc ?_ ?_ _) | (with_reducible refine Below.drew ?_) | (with_reducible refine belowDrewN ?_ _) | (with_reducible refine Below.setCell ?_ ?_ _) | (with_reducible refine Below.via (by with_reducible assumption) ?_ ?_) | (with_reducible refine Below.viaD (by with_reducible assumption) ?_ ?_) | (with_reducible exact Below.size (by with_reducible assumption)) | go_size | (with_reducible refine Nat.le_trans ?_ (Below.size (by with_reducible assumption))) | (with_reducible refine Nat.le_trans ?_ (sizeAlloc _ _)) | (with_reducible refine Nat.le_trans ?_ (sizeSet _ _ _)) | (with_reducible refine Nat.le_trans ?_ (sizeDrew _))))⟩
theorem szSlot_gt (u : Bool) (A : Option Addr) (m c : Nat) (p d v b left : Int) (w : World) (h1 : left < (m : Int)) (h2 : 0 ≤ left) (hm : m ≤ 9223372036854775807) :
    Calls Try.prog 75 #[.agg #[.bool u, .slice A m c, .int .i64 p, .int .i64 d, .int .i64 v, .int .i64 b], .int .i64 left] w fun e w' => e = .returned (.int .i64 (-1)) ∧ Below w.heap.size w w' := by
  go_enter Try.func75, Try.ntmps75
  go_wp2_with (go_at_call 55; refine (szInt64S_gt A m c left _ h1 h2 hm).mono ?_; rintro e w_ ⟨rfl, rfl⟩)
  go_ret
  exact ⟨rfl, by (repeat' (first | (with_reducible exact Below.refl _ _) | (with_reducible assumption) | (with_reducible refine Below.alloc ?_ ?_ _) | (with_reducible refine Below.drew ?_) | (with_reducible refine belowDrewN ?_ _) | (with_reducible refine Below.setCell ?_ ?_ _) | (with_reducible refine Below.via (by with_reducible assumption) ?_ ?_) | (with_reducible refine Below.viaD (by with_reducible assumption) ?_ ?_) | (with_reducible exact Below.size (by with_reducible assumption)) | go_size | (with_reducible refine Nat.le_trans ?_ (Below.size (by with_reducible assumption))) | (with_reducible refine Nat.le_trans ?_ (sizeAlloc _ _)) | (with_reducible refine Nat.le_trans ?_ (sizeSet _ _ _)) | (with_reducible refine Nat.le_trans ?_ (sizeDrew _))))⟩
set_option maxHeartbeats 1000000 in
theorem szSlotS_any (A : Option Addr) (n c : Nat) (ss : List SlotR) (left : Int) (w : World) (hs : Sls w w.heap.size A n ss) (hn : n ≤ 9223372036854775807) (h1 : left ≤ 1048576) (h0 : 0 ≤ left) :
    Calls Try.prog 49 #[.slice A n c, .int .i64 left] w fun e w' => e = .returned (.int .i64 (SzR (pssOf ss) n left)) ∧ Below w.heap.size w w' := by
  obtain ⟨r, hr⟩ : ∃ r, SzR (pssOf ss) n left = r := ⟨_, rfl⟩
  have HR := Lib.hid hr
  clear hr
  rw [HR.out]
  by_cases hb : (n : Int) ≤ left
  case neg =>
    have hq : Hid (r = -1) := by unfold Hid; rw [← HR.out, SzR, if_neg (by omega)]
    go_enter Try.func49, Try.ntmps49
    go_wp2
    go_ret
    exact ⟨by rw [hq.out]; rfl, by (repeat' (first | (with_reducible exact Below.refl _ _) | (with_reducible assumption) | (with_reducible refine Below.alloc ?_ ?_ _) | (with_reducible refine Below.drew ?_) | (with_reducible refine belowDrewN ?_ _) | (with_reducible refine Below.setCell ?_ ?_ _) | (with_reducible refine Below.via (by with_reducible assumption) ?_ ?_) | (with_reducible refine Below.viaD (by with_reducible assumption) ?_ ?_) | (with_reducible exact Below.size (by with_reducible assumption)) | go_size | (with_reducible refine Nat.le_trans ?_ (Below.size (by with_reducible assumption))) | (with_reducible refine Nat.le_trans ?_ (sizeAlloc _ _)) | (with_reducible refine Nat.le_trans ?_ (sizeSet _ _ _)) | (with_reducible refine Nat.le_trans ?_ (sizeDrew _))))⟩
  case pos =>
    go_enter Try.func49, Try.ntmps49
    go_wp2
    go_loopw [1, 5] (fun l i wr => ∃ k : Nat, k ≤ n ∧ i = .int .i64 k ∧ l = .int .i64 (left - (n : Nat) - (sumLen (pssOf ss) k : Nat)) ∧ Hid (((n + sumLen (pssOf ss) k : Nat) : Int) ≤ left) ∧ Below w.heap.size w wr) (fun _ i _ => n - (intOf i).toNat)
    case atStart => exact ⟨0, Nat.zero_le _, rfl, by simp [sumLen], by unfold Hid; simp [sumLen]; exact hb, by (repeat' (first | (with_reducible exact Below.refl _ _) | (with_reducible assumption) | (with_reducible refine Below.alloc ?_ ?_ _) | (with_reducible refine Below.drew ?_) | (with_reducible refine belowDrewN ?_ _) | (with_reducible refine Below.setCell ?_ ?_ _) | (with_reducible refine Below.via (by with_reducible assumption) ?_ ?_) | (with_reducible refine Below.viaD (by with_reducible assumption) ?_ ?_) | (with_reducible exact Below.size (by with_reducible assumption)) | go_size | (with_reducible refine Nat.le_trans ?_ (Below.size (by with_reducible assumption))) | (with_reducible refine Nat.le_trans ?_ (sizeAlloc _ _)) | (with_reducible refine Nat.le_trans ?_ (sizeSet _ _ _)) | (with_reducible refine Nat.le_trans ?_ (sizeDrew _))))⟩
    case round =>
      obtain ⟨k, hk, rfl, rfl, HK, hbl⟩ := hrel
      by_cases hlt : k < n
      · obtain ⟨b, off, u0, l, p0, d0, v0, b0, A', m, c', rfl, hb', HL, hat, hsl, hm⟩ := (hs.below hbl).row hlt
        obtain ⟨c0, c1, c2, c3, c4, c5⟩ := hat
        have hlm : Hid (sumLen (pssOf ss) (k + 1) = sumLen (pssOf ss) k + m) := by unfold Hid; rw [sumLen, pssOf_at, HL.out, ← hsl.ints]
        have hsm := Lib.hid (sumLen_mono (pssOf ss) (j := k + 1) hlt)
        obtain ⟨u, hu⟩ : ∃ u, sumLen (pssOf ss) k = u := ⟨_, rfl⟩
        rw [hu]
        have HU := Lib.hid hu
        have hku := HK.out
        rw [hu] at hku
        clear hu
        by_cases hov : (m : Int) ≤ left - (n : Nat) - (u : Nat)
        · go_wp2_with (go_at_call 75; refine (szSlot_le _ A' m c' _ _ _ _ (left - (n : Nat) - (u : Nat)) _ hov (by omega)).mono ?_; rintro e w_ ⟨rfl, hb_⟩)
          go_roundw
          case rel =>
            refine ⟨k + 1, by omega, by go_num, ?_, ?_, by (repeat' (first | (with_reducible exact Below.refl _ _) | (with_reducible assumption) | (with_reducible refine Below.alloc ?_ ?_ _) | (with_reducible refine Below.drew ?_) | (with_reducible refine belowDrewN ?_ _) | (with_reducible refine Below.setCell ?_ ?_ _) | (with_reducible refine Below.via (by with_reducible assumption) ?_ ?_) | (with_reducible refine Below.viaD (by with_reducible assumption) ?_ ?_) | (with_reducible exact Below.size (by with_reducible assumption)) | go_size | (with_reducible refine Nat.le_trans ?_ (Below.size (by with_reducible assumption))) | (with_reducible refine Nat.le_trans ?_ (sizeAlloc _ _)) | (with_reducible refine Nat.le_trans ?_ (sizeSet _ _ _)) | (with_reducible refine Nat.le_trans ?_ (sizeDrew _))))⟩
            · rw [hlm.out, HU.out]; go_num
            · unfold Hid; rw [hlm.out, HU.out]; omega
          case measure => first | (simp [intOf]; done) | (simp [intOf]; omega)
        · have hq : Hid (r = -1) := by
            unfold Hid
            have h5 := hsm.out
            rw [hlm.out, HU.out] at h5
            rw [← HR.out, SzR, if_neg (by omega)]
          go_wp2_with (go_at_call 75; refine (szSlot_gt _ A' m c' _ _ _ _ (left - (n : Nat) - (u : Nat)) _ (by omega) (by omega) hm).mono ?_; rintro e w_ ⟨rfl, hb_⟩)
          go_ret
          exact ⟨by rw [hq.out]; rfl, by (repeat' (first | (with_reducible exact Below.refl _ _) | (with_reducible assumption) | (with_reducible refine Below.alloc ?_ ?_ _) | (with_reducible refine Below.drew ?_) | (with_reducible refine belowDrewN ?_ _) | (with_reducible refine Below.setCell ?_ ?_ _) | (with_reducible refine Below.via (by with_reducible assumption) ?_ ?_) | (with_reducible refine Below.viaD (by with_reducible assumption) ?_ ?_) | (with_reducible exact Below.size (by with_reducible assumption)) | go_size | (with_reducible refine Nat.le_trans ?_ (Below.size (by with_reducible assumption))) | (with_reducible refine Nat.le_trans ?_ (sizeAlloc _ _)) | (with_reducible refine Nat.le_trans ?_ (sizeSet _ _ _)) | (with_reducible refine Nat.le_trans ?_ (sizeDrew _))))⟩
      · obtain rfl : k = n := by omega
        go_wp2
        go_ret
        have hk2 := HK.out
        exact ⟨by rw [← HR.out, SzR, if_pos hk2, show left - ((k + sumLen (pssOf ss) k : Nat) : Int) = left - (k : Nat) - (sumLen (pssOf ss) k : Nat) from by omega]; rfl, by (repeat' (first | (with_reducible exact Below.refl _ _) | (with_reducible assumption) | (with_reducible refine Below.alloc ?_ ?_ _) | (with_reducible refine Below.drew ?_) | (with_reducible refine belowDrewN ?_ _) | (with_reducible refine Below.setCell ?_ ?_ _) | (with_reducible refine Below.via (by with_reducible assumption) ?_ ?_) | (with_reducible refine Below.viaD (by with_reducible assumption) ?_ ?_) | (with_reducible exact Below.size (by with_reducible assumption)) | go_size | (with_reducible refine Nat.le_trans ?_ (Below.size (by with_reducible assumption))) | (with_reducible refine Nat.le_trans ?_ (sizeAlloc _ _)) | (with_reducible refine Nat.le_trans ?_ (sizeSet _ _ _)) | (with_reducible refine Nat.le_trans ?_ (sizeDrew _))))⟩
/-- What a Memory holds. -/
structure MemoryD where
  r : Ru
  ss : List SlotR
/-- The cells read as the data. -/
def XMemory (w : World) (cs : List Value) (d : MemoryD) : Prop := ∃ (A : Option Addr) (n c : Nat), cs = [.int .i64 d.r.p, .int .i64 d.r.s, .bool d.r.st, .bool d.r.sk, .bool d.r.re, .bool d.r.fe, .bool d.r.ag, .int .i64 d.r.ca, .int .i64 d.r.sl, .slice A n c] ∧ Sls w w.heap.size A n d.ss ∧ n ≤ 9223372036854775807
theorem szMemory_any (r : Ru) (A : Option Addr) (n c : Nat) (ss : List SlotR) (left : Int) (w : World) (hs : Sls w w.heap.size A n ss) (hn : n ≤ 9223372036854775807) (h1 : left ≤ 1048576) (h0 : 0 ≤ left) :
    Calls Try.prog 17 #[.agg #[.int .i64 r.p, .int .i64 r.s, .bool r.st, .bool r.sk, .bool r.re, .bool r.fe, .bool r.ag, .int .i64 r.ca, .int .i64 r.sl, .slice A n c], .int .i64 left] w fun e w' => e = .returned (.int .i64 (SzR (pssOf ss) n left)) ∧ Below w.heap.size w w' := by
  obtain ⟨q, hq⟩ : ∃ q, SzR (pssOf ss) n left = q := ⟨_, rfl⟩
  have HQ := Lib.hid hq
  have hq1 : 0 ≤ q ∨ q = -1 := by
    rw [← hq, SzR]; split
    · left; omega
    · right; rfl
  clear hq
  rw [HQ.out]
  by_cases hq0 : 0 ≤ q
  · go_enter Try.func17, Try.ntmps17
    go_wp2_with (go_at_call 49; refine (szSlotS_any A n c ss left _ (hs.boxed _) hn h1 h0).mono ?_; rintro e w_ ⟨rfl, hb_⟩; rw [HQ.out])
    go_ret
    exact ⟨rfl, by (repeat' (first | (with_reducible exact Below.refl _ _) | (with_reducible assumption) | (with_reducible refine Below.alloc ?_ ?_ _) | (with_reducible refine Below.drew ?_) | (with_reducible refine belowDrewN ?_ _) | (with_reducible refine Below.setCell ?_ ?_ _) | (with_reducible refine Below.via (by with_reducible assumption) ?_ ?_) | (with_reducible refine Below.viaD (by with_reducible assumption) ?_ ?_) | (with_reducible exact Below.size (by with_reducible assumption)) | go_size | (with_reducible refine Nat.le_trans ?_ (Below.size (by with_reducible assumption))) | (with_reducible refine Nat.le_trans ?_ (sizeAlloc _ _)) | (with_reducible refine Nat.le_trans ?_ (sizeSet _ _ _)) | (with_reducible refine Nat.le_trans ?_ (sizeDrew _))))⟩
  · obtain rfl : q = -1 := by omega
    go_enter Try.func17, Try.ntmps17
    go_wp2_with (go_at_call 49; refine (szSlotS_any A n c ss left _ (hs.boxed _) hn h1 h0).mono ?_; rintro e w_ ⟨rfl, hb_⟩; rw [HQ.out])
    go_ret
    exact ⟨rfl, by (repeat' (first | (with_reducible exact Below.refl _ _) | (with_reducible assumption) | (with_reducible refine Below.alloc ?_ ?_ _) | (with_reducible refine Below.drew ?_) | (with_reducible refine belowDrewN ?_ _) | (with_reducible refine Below.setCell ?_ ?_ _) | (with_reducible refine Below.via (by with_reducible assumption) ?_ ?_) | (with_reducible refine Below.viaD (by with_reducible assumption) ?_ ?_) | (with_reducible exact Below.size (by with_reducible assumption)) | go_size | (with_reducible refine Nat.le_trans ?_ (Below.size (by with_reducible assumption))) | (with_reducible refine Nat.le_trans ?_ (sizeAlloc _ _)) | (with_reducible refine Nat.le_trans ?_ (sizeSet _ _ _)) | (with_reducible refine Nat.le_trans ?_ (sizeDrew _))))⟩
end Go.Proofs.Ytpcenpedbdenmaa
