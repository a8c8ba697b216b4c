/- Pairings: lists without two players. Conditions: at most 12 players. -/
import Derived.Test.YteeplmnjipddaaaDoorG01
import Derived.Test.YteeplmnjipddaaaDoorG14
import Derived.Test.YteeplmnjipddaaaDoorG05
import Derived.Deep.RegionHeld3
/- Firsts: both functions, and the law. No conditions beyond lengths. -/
namespace Go.Proofs.YteeplmnjipddaaaDoor
set_option linter.unusedSimpArgs false
set_option linter.unusedVariables false
open Go.RowKit

theorem validM_of {n : Int} {zs : List Int} (h : validM n zs = true) : ∃ k : Nat, n = k ∧ 2 ≤ k ∧ k ≤ 12 ∧ zs.length ≤ 300 ∧ ∀ j, j < zs.length / 2 → 0 ≤ zs.getD (j * 2) 0 ∧ zs.getD (j * 2) 0 < k ∧ 0 ≤ zs.getD (j * 2 + 1) 0 ∧ zs.getD (j * 2 + 1) 0 < k ∧ zs.getD (j * 2) 0 ≠ zs.getD (j * 2 + 1) 0 := by
  rw [validM, Bool.and_eq_true, Bool.and_eq_true, List.all_eq_true] at h
  obtain ⟨⟨h1, h2⟩, h3⟩ := h
  obtain ⟨k, rfl, k1, k2⟩ := nat_of h1
  refine ⟨k, rfl, k1, k2, of_decide_eq_true h2, fun j hj => ?_⟩
  have hw : wrap64 ((k : Int) - 1) = (k : Int) - 1 := IntWalk.wrap64_in _ (by omega)
  have h4 := h3 j (List.mem_range.2 hj)
  rw [hw, mtOk, Bool.and_eq_true, Bool.and_eq_true] at h4
  obtain ⟨⟨c1, c2⟩, c3⟩ := h4
  have a1 := inB_of c1
  have a2 := inB_of c2
  simp at c3
  exact ⟨by omega, by omega, by omega, by omega, c3⟩
/-- How often each of n players has moved first in the first k meetings. -/
def fstL (n : Nat) (zs : List Int) : Nat → List Int
  | 0 => List.replicate n 0
  | k + 1 => (fstL n zs k).set (zs.getD (k * 2) 0).toNat ((fstL n zs k).getD (zs.getD (k * 2) 0).toNat 0 + 1)
theorem fstL_len (n : Nat) (zs : List Int) (k : Nat) : (fstL n zs k).length = n := by
  induction k with
  | zero => simp [fstL]
  | succ k ih => rw [fstL, List.length_set, ih]
theorem fstL_bd (n : Nat) (zs : List Int) (k d : Nat) : 0 ≤ (fstL n zs k).getD d 0 ∧ (fstL n zs k).getD d 0 ≤ k := by
  induction k generalizing d with
  | zero =>
    simp only [fstL, List.getD_eq_getElem?_getD, List.getElem?_replicate]
    split <;> simp
  | succ k ih =>
    have h1 := ih d
    have h2 := ih (zs.getD (k * 2) 0).toNat
    simp only [fstL]
    rw [List.getD_eq_getElem?_getD, List.getElem?_set]
    split
    · split
      · simp only [Option.getD_some]; omega
      · simp; omega
    · rw [← List.getD_eq_getElem?_getD]; omega
theorem arr_get {zs : List Int} {d : Nat} (h : d < zs.length) : (zs.map (Value.int .i64)).toArray[d]? = some (.int .i64 (zs.getD d 0)) := by
  rw [List.getElem?_toArray]; exact getD_map_int h
theorem arr_set (zs : List Int) (d : Nat) (v : Int) : (zs.map (Value.int .i64)).toArray.setIfInBounds d (.int .i64 v) = ((zs.set d v).map (Value.int .i64)).toArray := by
  rw [List.setIfInBounds_toArray, ← List.map_set]
theorem info_int64' : (Tryd.prog.info? 2).map (fun i => (i.zero, i.size, i.bytes)) = some (some (.int .i64 0), 1, 8) := by kernel_rfl
def fstLst (n : Int) (zs : List Int) (c : Nat) : List Int := if validM n zs then fstL n.toNat zs c else []
def fstCode (n : Int) (zs : List Int) : Int := if validM n zs then 0 else 1
theorem fst_no {n : Int} {zs : List Int} {c : Nat} (h : validM n zs = false) : fstLst n zs c = [] ∧ fstCode n zs = 1 := by rw [fstLst, fstCode, h]; exact ⟨rfl, rfl⟩
theorem fst_yes {n : Nat} {zs : List Int} {c : Nat} (h : validM n zs = true) : fstLst n zs c = fstL n zs c ∧ fstCode n zs = 0 := by rw [fstLst, fstCode, h]; exact ⟨rfl, rfl⟩
/-- What FirstsOf returns: a list of its own, and the code. -/
def FirstsPost (P : Program) (n : Int) (zs : List Int) (c : Nat) (w : World) (e : Ending) (w' : World) : Prop :=
  ∃ (A : Option Addr) (g q : Nat), e = .returned (.tuple #[.slice A q q, .int .i64 (fstCode n zs)]) ∧ w.heap.size ≤ g ∧ Own w' g 2 1 A q (fstLst n zs c) ∧ q ≤ 12 ∧ Below w.heap.size w w'
theorem own_of_blk {w : World} {g : Nat} {t : TypeId} {n : Nat} {L : List Int} (h : Blk w g t (L.map (Value.int .i64)).toArray) (hl : L.length = n) : Own w g t 1 (some ⟨g, 0, none⟩) n L :=
  ⟨by omega, fun _ => ⟨rfl, [], by simpa using h⟩⟩
end Go.Proofs.YteeplmnjipddaaaDoor
/- Pairings: parts of lists, who has met. Conditions: at most 12 players. -/
namespace Go.Proofs.YteeplmnjipddaaaDoor
set_option linter.unusedSimpArgs false
set_option linter.unusedVariables false
open Go.RowKit Go.WideShapes

theorem info_i64w : (Tryd.prog.info? 2).map (fun i => (i.zero, i.size, i.bytes)) = some (some (.int .i64 0), 1, 8) := by kernel_rfl
theorem elem_w : Tryd.prog.elem 33 = 2 := by kernel_rfl
theorem und_w : Tryd.prog.underlying 33 = some (.slice (Tryd.prog.elem 33)) := by rw [elem_w]; exact Tryd.underlying33
/-- A part of a slice of numbers. -/
theorem Sl.partw {w : World} {B n c : Nat} {A A' : Option Addr} {zs : List Int} (h : Sl w B 1 A n (zs.map (Value.int .i64))) {l k : Nat} (hl : l ≤ k) (hk : k ≤ n) (hc : n ≤ c) (hA : c ≠ l → A' = A.map (fun a => a.add l)) : Sl w B 1 A' (k - l) (((zs.drop l).take (k - l)).map (Value.int .i64)) := by
  have hlen := h.ints
  refine ⟨by rw [List.length_map, List.length_take, List.length_drop]; omega, fun hp => ?_⟩
  obtain ⟨b, off, e, hb, hcc⟩ := h.2 (by omega)
  rw [hA (by omega), e]
  refine ⟨b, off + l, by simp [Addr.add], hb, fun j u hu => ?_⟩
  rw [List.getElem?_map, List.getElem?_take] at hu
  split at hu
  · rw [List.getElem?_drop, ← List.getElem?_map] at hu
    have := hcc (l + j) u hu
    rw [← Nat.add_assoc] at this
    exact this
  · simp at hu
/-- Players without the first one and the one at a place. -/
def witho (l : List Int) (k : Nat) : List Int := (l.drop 1).take (k - 1) ++ l.drop (k + 1)
theorem witho_len {l : List Int} {k : Nat} (h : k < l.length) (h1 : 1 ≤ k) : (witho l k).length = l.length - 2 := by
  rw [witho, List.length_append, List.length_take, List.length_drop, List.length_drop]; omega
theorem witho_mem {l : List Int} {k : Nat} {x : Int} (h : x ∈ witho l k) : x ∈ l := by
  rw [witho, List.mem_append] at h
  rcases h with h | h
  · exact List.mem_of_mem_drop (List.mem_of_mem_take h)
  · exact List.mem_of_mem_drop h
/-- A list of the call's own behind a call that only makes memory. -/
def RowV (P : Program) (l : List Int) (n : Nat) (w : World) (e : Ending) (w' : World) : Prop := ∃ v, e = .returned v ∧ w'.ownsRow w.heap.size 2 1 v n (l.map (Value.int .i64)) ∧ Below w.heap.size w w'
set_option maxHeartbeats 1000000 in
theorem l00Own_row (A : Option Addr) (n c : Nat) (zs : List Int) (w : World) (hs : Sl w w.heap.size 1 A n (zs.map (Value.int .i64))) (hn : n ≤ 100) :
    Calls Tryd.prog 32 #[.slice A n c] w (RowV Tryd.prog zs n w) := by
  obtain ⟨i0, ti, tz0, tz1, tz2⟩ := info_parts info_i64w
  have HS := Lib.hid hs
  clear hs
  go_enter Tryd.func32, Tryd.ntmps32
  go_wp2_with (at_builtin; refine wpList_append_sl _ rfl _ _ 33 rfl w.heap.size 2 i0 _ 1 8 Tryd.underlying33 ti tz0 tz1 tz2 rfl (by decide) _ 0 [] rfl (World.ownsRow_made _ _ 0 (Nat.le_refl _) (Nat.zero_le _) rfl) w.heap.size A n c (zs.map (Value.int .i64)) rfl (HS.out.below (Below.alloc (Below.refl _ _) (Nat.le_refl _) _)) ?c1 ?c2 ?c3 ?c4 ?_)
  case c1 => intro u hu; rw [List.mem_map] at hu; obtain ⟨b, _, rfl⟩ := hu; rfl
  case c2 => unfold maxLen; omega
  case c3 => omega
  case c4 => simp
  intro v' w3 hown3 hg3 _
  have hbn : Below w.heap.size w w3 := below_app (by (repeat' (first | (with_reducible exact Below.refl _ _) | (with_reducible assumption) | (with_reducible refine Below.alloc ?_ ?_ _) | (with_reducible refine Below.drew ?_) | (with_reducible refine belowDrewN ?_ _) | (with_reducible refine Below.setCell ?_ ?_ _) | (with_reducible refine Below.via (by with_reducible assumption) ?_ ?_) | (with_reducible refine Below.viaD (by with_reducible assumption) ?_ ?_) | (with_reducible exact Below.size (by with_reducible assumption)) | go_size | (with_reducible refine Nat.le_trans ?_ (Below.size (by with_reducible assumption))) | (with_reducible refine Nat.le_trans ?_ (sizeAlloc _ _)) | (with_reducible refine Nat.le_trans ?_ (sizeSet _ _ _)) | (with_reducible refine Nat.le_trans ?_ (sizeDrew _))))) (World.ownsRow_made (e := 2) (size := 1) _ _ 0 (Nat.le_refl _) (Nat.zero_le _) rfl) hg3 (Nat.le_refl _) (by simp)
  have HO3 := Lib.hid hown3
  clear hown3 hg3
  go_wp2_with fail
  go_ret
  exact ⟨v', rfl, HO3.out, hbn⟩
/-- Who has met whom in the first k meetings. -/
def metB (zs : List Int) (a b : Int) : Nat → Bool
  | 0 => false
  | k + 1 => metB zs a b k || ((zs.getD (k * 2) 0 == a && zs.getD (k * 2 + 1) 0 == b) || (zs.getD (k * 2) 0 == b && zs.getD (k * 2 + 1) 0 == a))
theorem metB_mono {zs : List Int} {a b : Int} {k : Nat} : ∀ c, k ≤ c → metB zs a b k = true → metB zs a b c = true
  | 0, h, h2 => by
    obtain rfl : k = 0 := by omega
    exact h2
  | c + 1, h, h2 => by
    by_cases e : k = c + 1
    · subst e
      exact h2
    · rw [metB, metB_mono c (by omega) h2]; rfl
end Go.Proofs.YteeplmnjipddaaaDoor
/- Pairings: lists without two players. Conditions: at most 12 players. -/
namespace Go.Proofs.YteeplmnjipddaaaDoor
set_option linter.unusedSimpArgs false
set_option linter.unusedVariables false
open Go.RowKit Go.WideShapes

/-- Both parts of a list without two players. -/
theorem witho_parts {zs : List Int} {n k : Nat} (hl : zs.length = n) (h1 : 1 ≤ k) (hk : k < n) : ∃ l1 l2 : List Int, (zs.drop 1).take (k - 1) = l1 ∧ (zs.drop (k + 1)).take (n - (k + 1)) = l2 ∧ witho zs k = l1 ++ l2 ∧ l1.length = k - 1 ∧ l2.length = n - (k + 1) := by
  refine ⟨_, _, rfl, rfl, ?_, ?_, ?_⟩
  · rw [witho]
    congr 1
    rw [List.take_of_length_le]
    rw [List.length_drop]; omega
  · rw [List.length_take, List.length_drop]; omega
  · rw [List.length_take, List.length_drop]; omega
theorem one_cells (l : List Int) : ∀ u ∈ l.map (Value.int .i64), u.oneCell' = true := by
  intro u hu
  rw [List.mem_map] at hu
  obtain ⟨b, _, rfl⟩ := hu
  rfl
/-- Each part is a slice. -/
def Part (w : World) (c n l k : Nat) (A : Option Addr) (zs : List Int) : Prop := ∀ A', (c ≠ l → A' = A.map (fun a => a.add l)) → Sl w w.heap.size 1 A' (k - l) (zs.map (Value.int .i64))
theorem Part.later {w w' : World} {c n l k : Nat} {A : Option Addr} {zs : List Int} (h : Part w c n l k A zs) (hb : Below w.heap.size w w') : Part w' c n l k A zs := fun A' hA => (h A' hA).later hb
theorem Part.drew {w : World} {c n l k : Nat} {A : Option Addr} {zs : List Int} (h : Part w c n l k A zs) : Part w.drew c n l k A zs := fun A' hA => (h A' hA).drew
end Go.Proofs.YteeplmnjipddaaaDoor
