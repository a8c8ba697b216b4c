/- RoundRobin: both functions. No conditions. -/
import Derived.Test.YteeplmnjipddaaaPair3
import Derived.Test.YteeplmnjipddaaaApp
namespace Go.Proofs.Yteeplmnjipddaaa
set_option linter.unusedSimpArgs false
set_option linter.unusedVariables false
open Go.RowKit

def mt2 (n r a b : Nat) : List Int := [(meetA n r a b : Int), (meetB n r a b : Int)]
/-- The meetings of the first a players with later ones. -/
def rrS (n r : Nat) : Nat → List Int
  | 0 => []
  | a + 1 => rrS n r a ++ (if a < othN n r a then mt2 n r a (othN n r a) else [])
/-- The meetings of player a with later ones before b. -/
def rrRow (n r a : Nat) : Nat → List Int
  | 0 => []
  | b + 1 => rrRow n r a b ++ (if a < b && rofN n a b == r then mt2 n r a b else [])
theorem rrS_len (n r a : Nat) : (rrS n r a).length ≤ 2 * a := by
  induction a with
  | zero => simp [rrS]
  | succ a ih => rw [rrS, List.length_append]; split <;> simp [mt2] <;> omega
theorem rrRow_len (n r a b : Nat) : (rrRow n r a b).length ≤ 2 * b := by
  induction b with
  | zero => simp [rrRow]
  | succ b ih => rw [rrRow, List.length_append]; split <;> simp [mt2] <;> omega
theorem rrRow_low (n r a b : Nat) (h : b ≤ a + 1) : rrRow n r a b = [] := by
  induction b with
  | zero => rfl
  | succ b ih =>
    have e : (decide (a < b) && rofN n a b == r) = false := by rw [decide_eq_false (by omega)]; rfl
    rw [rrRow, ih (by omega), e]; rfl
theorem rr_row : ∀ n, n < 13 → ∀ r, r < rdN n → ∀ a, a < n → rrRow n r a n = if a < othN n r a then mt2 n r a (othN n r a) else [] := by decide +kernel
/-- What RoundRobin returns: the meetings, the code. -/
def rrR (n r : Int) : List Int × Int := if okR n r then (rrS n.toNat r.toNat n.toNat, 0) else ([], 2)
def RrPost (P : Program) (L : List Int) (code : Int) (w : World) (e : Ending) (w' : World) : Prop :=
  ∃ (A : Option Addr) (g q cap : Nat), e = .returned (.tuple #[.slice A q cap, .int .i64 code]) ∧ w.heap.size ≤ g ∧ Own w' g 52 2 A q L ∧ Below w.heap.size w w'
theorem pairLR {α : Type} {x x' : α} {z z' : Int} (h : (x', z') = (x, z)) : x' = x ∧ z' = z := by
  injection h with h1 h2
  exact ⟨h1, h2⟩
theorem info_Meeting' : (Try.prog.info? 52).map (fun i => (i.zero, i.size, i.bytes)) = some (some (.agg #[Value.int .i64 0, .int .i64 0]), 2, 16) := by kernel_rfl
/-- The list that is being made. -/
def RrRel (w wr : World) (v : Value) (L : List Int) : Prop := ∃ q, wr.ownsRow w.heap.size 52 2 v q (L.map (Value.int .i64))
theorem RrRel.len {w wr : World} {v : Value} {L : List Int} (h : RrRel w wr v L) : ∃ q, q * 2 = L.length ∧ wr.ownsRow w.heap.size 52 2 v q (L.map (Value.int .i64)) := by
  obtain ⟨q, hq⟩ := h
  exact ⟨q, by have := hq.1; simp at this; omega, hq⟩
set_option maxRecDepth 100000 in
set_option maxHeartbeats 1000000 in
theorem sRoundRobin_any (n r : Int) (L : List Int) (code : Int) (hr : rrR n r = (L, code)) (w : World) :
    Calls Try.prog 85 #[.int .i64 n, .int .i64 r] w (RrPost Try.prog L code w) := by
  unfold rrR at hr
  cases hok : okR n r
  case false =>
    rw [hok] at hr
    obtain ⟨rfl, rfl⟩ := pairLR hr
    have hc := codeR_f hok
    clear hr hok
    go_enter Try.func85, Try.ntmps85
    go_wp2_with (go_at_call 87; refine (l24Code_any _ _ _).mono ?_; rintro e w_ ⟨rfl, rfl⟩)
    go_ret2
    exact ⟨none, w.heap.size, 0, 0, rfl, Nat.le_refl _, ⟨rfl, fun h => absurd h (by omega)⟩, by (repeat' (first | (with_reducible exact Below.refl _ _) | (with_reducible assumption) | (with_reducible refine Below.alloc ?_ ?_ _) | (with_reducible refine Below.drew ?_) | (with_reducible refine belowDrewN ?_ _) | (with_reducible refine Below.setCell ?_ ?_ _) | (with_reducible refine Below.via (by with_reducible assumption) ?_ ?_) | (with_reducible refine Below.viaD (by with_reducible assumption) ?_ ?_) | (with_reducible exact Below.size (by with_reducible assumption)) | go_size | (with_reducible refine Nat.le_trans ?_ (Below.size (by with_reducible assumption))) | (with_reducible refine Nat.le_trans ?_ (sizeAlloc _ _)) | (with_reducible refine Nat.le_trans ?_ (sizeSet _ _ _)) | (with_reducible refine Nat.le_trans ?_ (sizeDrew _))))⟩
  case true =>
    rw [hok, if_pos rfl] at hr
    obtain ⟨k, j, rfl, rfl, k1, k2, hj⟩ := okR_of hok
    obtain ⟨hr1, rfl⟩ := pairLR hr
    simp only [Int.toNat_natCast] at hr1
    have hc := codeR_t hok
    have HR := Lib.hid hr1
    have hj12 : j ≤ 12 := by have := rdN_le k1; omega
    clear hr hr1 hok
    obtain ⟨i0, ti, tz0, tz1, tz2⟩ := info_parts info_Meeting'
    go_enter Try.func85, Try.ntmps85
    go_wp2_with (go_at_call 87; refine (l24Code_any _ _ _).mono ?_; rintro e w_ ⟨rfl, rfl⟩)
    go_loopw [7, 8] (fun v i wr => ∃ a : Nat, a ≤ k ∧ i = .int .i64 a ∧ RrRel w wr v (rrS k j a) ∧ Below w.heap.size w wr) (fun _ i _ => k - (intOf i).toNat)
    case atStart => exact ⟨0, Nat.zero_le _, rfl, ⟨0, World.ownsRow_made _ _ 0 (Nat.le_refl _) (Nat.zero_le _) rfl⟩, by (repeat' (first | (with_reducible exact Below.refl _ _) | (with_reducible assumption) | (with_reducible refine Below.alloc ?_ ?_ _) | (with_reducible refine Below.drew ?_) | (with_reducible refine belowDrewN ?_ _) | (with_reducible refine Below.setCell ?_ ?_ _) | (with_reducible refine Below.via (by with_reducible assumption) ?_ ?_) | (with_reducible refine Below.viaD (by with_reducible assumption) ?_ ?_) | (with_reducible exact Below.size (by with_reducible assumption)) | go_size | (with_reducible refine Nat.le_trans ?_ (Below.size (by with_reducible assumption))) | (with_reducible refine Nat.le_trans ?_ (sizeAlloc _ _)) | (with_reducible refine Nat.le_trans ?_ (sizeSet _ _ _)) | (with_reducible refine Nat.le_trans ?_ (sizeDrew _))))⟩
    case round =>
      obtain ⟨a, ha, rfl, hown, hbl⟩ := hrel
      by_cases hlt : a < k
      · have ob := oth_bd (n := k) (r := j) (p := a) k1
        have hml := rrS_len k j a
        have HX : Hid (rrS k j (a + 1) = rrS k j a ++ (if a < othN k j a then mt2 k j a (othN k j a) else [])) := rfl
        obtain ⟨o, ho⟩ : ∃ o, othN k j a = o := ⟨_, rfl⟩
        have HO := Lib.hid ho
        rw [ho] at ob HX
        clear ho
        obtain ⟨q, hq, hown⟩ := hown.len
        revert hml HX hown hq
        generalize rrS k j a = l
        intro hml HX hq hown
        have HW := Lib.hid hown
        have hbs := hbl.size
        clear hown
        by_cases hao : a < o
        · have HX2 : Hid (rrS k j (a + 1) = l ++ mt2 k j a o) := by unfold Hid; rw [HX.out, if_pos hao]
          go_wp2_with (go_at_call 88; refine (l24Other_any k j a _ k1 k2 hj hlt).mono ?_; rintro e w_ ⟨rfl, rfl⟩; rw [HO.out])
          refine (l24Meet_lt k j a o _ k1 k2 hj12 hao (by omega)).mono ?_
          rintro e w2 ⟨rfl, hb2⟩
          have HW2 := Lib.hid (row_below HW.out hb2)
          have hbs2 := hb2.size
          go_wp2_with (at_builtin; refine wpList_append_sl _ rfl _ _ 36 rfl w.heap.size 52 i0 _ 2 16 Try.underlying36 ti tz0 tz1 tz2 rfl (by decide) _ q (l.map (Value.int .i64)) rfl (HW2.out.alloc _) (w2.heap.size + 1) _ 1 1 ((mt2 k j a o).map (Value.int .i64)) rfl (Sl.built (by simp) (by simp) rfl) ?c1 ?c2 ?c3 ?c4 ?_)
          case c1 => intro u hu; simp [mt2] at hu; rcases hu with rfl | rfl <;> rfl
          case c2 => unfold maxLen; omega
          case c3 => omega
          case c4 => simp; omega
          intro v' w3 hown3 hg3 _
          have hbn : Below w.heap.size w w3 := below_app (by (repeat' (first | (with_reducible exact Below.refl _ _) | (with_reducible assumption) | (with_reducible refine Below.alloc ?_ ?_ _) | (with_reducible refine Below.drew ?_) | (with_reducible refine belowDrewN ?_ _) | (with_reducible refine Below.setCell ?_ ?_ _) | (with_reducible refine Below.via (by with_reducible assumption) ?_ ?_) | (with_reducible refine Below.viaD (by with_reducible assumption) ?_ ?_) | (with_reducible exact Below.size (by with_reducible assumption)) | go_size | (with_reducible refine Nat.le_trans ?_ (Below.size (by with_reducible assumption))) | (with_reducible refine Nat.le_trans ?_ (sizeAlloc _ _)) | (with_reducible refine Nat.le_trans ?_ (sizeSet _ _ _)) | (with_reducible refine Nat.le_trans ?_ (sizeDrew _))))) (HW2.out.alloc _) hg3 (Nat.le_refl _) (by simp; omega)
          have HW3 : Hid (RrRel w w3 v' (l ++ mt2 k j a o)) := ⟨_, by rw [List.map_append]; exact hown3⟩
          clear hown3 hg3
          go_wp2_with fail
          go_roundw
          case rel => exact ⟨a + 1, by omega, by go_num, by rw [HX2.out]; exact HW3.out, hbn⟩
          case measure => first | (simp [intOf]; done) | (simp [intOf]; omega)
        · have HX2 : Hid (rrS k j (a + 1) = l) := by unfold Hid; rw [HX.out, if_neg hao, List.append_nil]
          go_wp2_with (go_at_call 88; refine (l24Other_any k j a _ k1 k2 hj hlt).mono ?_; rintro e w_ ⟨rfl, rfl⟩; rw [HO.out])
          go_roundw
          case rel => exact ⟨a + 1, by omega, by go_num, by rw [HX2.out]; exact ⟨_, HW.out⟩, by (repeat' (first | (with_reducible exact Below.refl _ _) | (with_reducible assumption) | (with_reducible refine Below.alloc ?_ ?_ _) | (with_reducible refine Below.drew ?_) | (with_reducible refine belowDrewN ?_ _) | (with_reducible refine Below.setCell ?_ ?_ _) | (with_reducible refine Below.via (by with_reducible assumption) ?_ ?_) | (with_reducible refine Below.viaD (by with_reducible assumption) ?_ ?_) | (with_reducible exact Below.size (by with_reducible assumption)) | go_size | (with_reducible refine Nat.le_trans ?_ (Below.size (by with_reducible assumption))) | (with_reducible refine Nat.le_trans ?_ (sizeAlloc _ _)) | (with_reducible refine Nat.le_trans ?_ (sizeSet _ _ _)) | (with_reducible refine Nat.le_trans ?_ (sizeDrew _))))⟩
          case measure => first | (simp [intOf]; done) | (simp [intOf]; omega)
      · obtain rfl : a = k := by omega
        obtain ⟨q, hq, hown⟩ := hown.len
        rw [HR.out] at hown
        obtain ⟨A', g, cap, rfl, hg, _, _, ho⟩ := own_of_row hown
        clear hown
        go_wp2_with fail
        go_ret2
        exact ⟨A', g, q, cap, rfl, hg, ho.own, by (repeat' (first | (with_reducible exact Below.refl _ _) | (with_reducible assumption) | (with_reducible refine Below.alloc ?_ ?_ _) | (with_reducible refine Below.drew ?_) | (with_reducible refine belowDrewN ?_ _) | (with_reducible refine Below.setCell ?_ ?_ _) | (with_reducible refine Below.via (by with_reducible assumption) ?_ ?_) | (with_reducible refine Below.viaD (by with_reducible assumption) ?_ ?_) | (with_reducible exact Below.size (by with_reducible assumption)) | go_size | (with_reducible refine Nat.le_trans ?_ (Below.size (by with_reducible assumption))) | (with_reducible refine Nat.le_trans ?_ (sizeAlloc _ _)) | (with_reducible refine Nat.le_trans ?_ (sizeSet _ _ _)) | (with_reducible refine Nat.le_trans ?_ (sizeDrew _))))⟩
end Go.Proofs.Yteeplmnjipddaaa
