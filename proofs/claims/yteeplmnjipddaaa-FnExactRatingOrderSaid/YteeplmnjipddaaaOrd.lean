/- The order by falling numbers, then by place: one list alone is sorted so. Plain. No conditions. -/
import Derived.Test.YteeplmnjipddaaaWays7
import Derived.Test.YteeplmnjipddaaaSym0
import Derived.Sort.LotA
namespace Go.Proofs.Yteeplmnjipddaaa
set_option linter.unusedSimpArgs false
set_option linter.unusedVariables false
open Go.RowKit Go.Lib Go.Sort

/-- What the program's sort asks: a greater number first. -/
def ltF (F : Int → Int) (x y : Int) : Bool := decide (F y < F x)
/-- The whole order: equal numbers by place. -/
def ltG (F : Int → Int) (x y : Int) : Bool := decide (F y < F x ∨ (F x = F y ∧ x < y))
theorem ltG_f {F : Int → Int} {x y : Int} (h : ltG F x y = false) : ¬ (F y < F x ∨ (F x = F y ∧ x < y)) := of_decide_eq_false h
theorem ltG_swo (F : Int → Int) : SWO (ltG F) := by
  refine ⟨fun x => decide_eq_false (by omega), fun x y z h1 h2 => decide_eq_true ?_, fun x y z h1 h2 => decide_eq_false ?_⟩
  · have a := of_decide_eq_true h1
    have b := of_decide_eq_true h2
    omega
  · have a := ltG_f h1
    have b := ltG_f h2
    omega
theorem ltG_tot (F : Int → Int) (x y : Int) (h1 : ltG F x y = false) (h2 : ltG F y x = false) : x = y := by
  have a := ltG_f h1
  have b := ltG_f h2
  omega
theorem ltF_ap (F : Int → Int) (x y : Int) (h : x < y) : ltF F y x = ltG F y x := by
  unfold ltF ltG
  congr 1
  rw [eq_iff_iff]
  omega
theorem posL_spec {F : Int → Int} {v : Int} {O : List Int} : ∀ k, k ≤ O.length → (∀ j, posL F v O k ≤ j → j < k → F (O.getD j 0) < v) ∧ (0 < posL F v O k → ¬ F (O.getD (posL F v O k - 1) 0) < v)
  | 0, _ => ⟨fun j _ h => by omega, fun h => by rw [posL] at h; omega⟩
  | k + 1, hk => by
    rw [posL]
    split
    · rename_i hc
      obtain ⟨a, b⟩ := posL_spec (F := F) (v := v) (O := O) k (by omega)
      refine ⟨fun j h1 h2 => ?_, b⟩
      by_cases e : j < k
      · exact a j h1 e
      · obtain rfl : j = k := by omega
        exact hc
    · rename_i hc
      exact ⟨fun j h1 h2 => by omega, fun _ => hc⟩
theorem pw_get {R : Int → Int → Prop} {l : List Int} (h : l.Pairwise R) {i j : Nat} (hij : i < j) (hj : j < l.length) : R (l.getD i 0) (l.getD j 0) := by
  rw [List.pairwise_iff_getElem] at h
  have := h i j (by omega) hj hij
  rw [List.getD_eq_getElem?_getD, List.getD_eq_getElem?_getD, List.getElem?_eq_getElem hj, List.getElem?_eq_getElem (show i < l.length by omega)]
  exact this
theorem ordL_pw (F : Int → Int) : ∀ n, (ordL F n).Pairwise (fun x y => ltG F y x = false)
  | 0 => List.Pairwise.nil
  | n + 1 => by
    have ih := ordL_pw F n
    have hl := ordL_len F n
    have hp := posL_le F (F n) (ordL F n) n
    obtain ⟨a, b⟩ := posL_spec (F := F) (v := F n) (O := ordL F n) n (by omega)
    rw [ordL]
    generalize posL F (F n) (ordL F n) n = p at a b hp
    have hm := ordL_mem F n
    have H1 : ∀ x ∈ (ordL F n).take p, ltG F n x = false := fun x hx => by
      obtain ⟨i, hi, e⟩ := List.getElem_of_mem hx
      rw [List.getElem_take] at e
      rw [List.length_take] at hi
      have hx2 := hm x (List.mem_of_mem_take hx)
      have e2 : (ordL F n).getD i 0 = x := by rw [List.getD_eq_getElem?_getD, List.getElem?_eq_getElem (by omega), e]; rfl
      have hb := b (by omega)
      apply decide_eq_false
      by_cases q : i = p - 1
      · rw [← q, e2] at hb; omega
      · have := pw_get ih (show i < p - 1 by omega) (by omega)
        rw [e2] at this
        have := ltG_f this
        omega
    have H2 : ∀ y ∈ (ordL F n).drop p, ltG F y n = false := fun y hy => by
      obtain ⟨i, hi, e⟩ := List.getElem_of_mem hy
      rw [List.getElem_drop] at e
      rw [List.length_drop] at hi
      have e2 : (ordL F n).getD (p + i) 0 = y := by rw [List.getD_eq_getElem?_getD, List.getElem?_eq_getElem (by omega), e]; rfl
      have := a (p + i) (by omega) (by omega)
      rw [e2] at this
      exact decide_eq_false (by omega)
    rw [List.append_assoc, List.pairwise_append]
    refine ⟨ih.sublist (List.take_sublist _ _), ?_, ?_⟩
    · rw [List.singleton_append, List.pairwise_cons]
      exact ⟨H2, ih.sublist (List.drop_sublist _ _)⟩
    · intro x hx y hy
      rcases List.mem_cons.1 hy with rfl | h
      · exact H1 x hx
      · have hs : ((ordL F n).take p ++ (ordL F n).drop p).Pairwise (fun x y => ltG F y x = false) := by rw [List.take_append_drop]; exact ih
        rw [List.pairwise_append] at hs
        exact hs.2.2 x hx y h
theorem ordL_perm (F : Int → Int) : ∀ n, (ordL F n).Perm (rangeL n)
  | 0 => List.Perm.refl _
  | n + 1 => by
    have ih := ordL_perm F n
    rw [ordL, rangeL_succ, List.append_assoc, List.singleton_append]
    generalize posL F (F n) (ordL F n) n = p
    have h1 := List.perm_middle (a := (n : Int)) (l₁ := (ordL F n).take p) (l₂ := (ordL F n).drop p)
    rw [List.take_append_drop] at h1
    have h2 := List.perm_append_comm (l₁ := [(n : Int)]) (l₂ := rangeL n)
    exact h1.trans ((ih.cons _).trans (by simpa using h2))
theorem arr_at (l : List Int) (i : Nat) : (l.toArray)[i]! = l.getD i 0 := by
  rw [List.getD_eq_getElem?_getD]
  by_cases h : i < l.length
  · rw [getElem!_pos _ i (by simpa using h), List.getElem?_eq_getElem h]; simp
  · rw [getElem!_neg _ i (by simpa using h), List.getElem?_eq_none (by omega)]; rfl
theorem permIn_list {l l' : List Int} {n : Nat} (hl : l.length = n) (h : l'.Perm l) : PermIn 0 n l.toArray l'.toArray := by
  have hl' : l'.length = n := by rw [h.length_eq]; exact hl
  refine ⟨by simp [hl, hl'], fun i hi => ?_, ?_⟩
  · rw [arr_at, arr_at, List.getD_eq_getElem?_getD, List.getD_eq_getElem?_getD, List.getElem?_eq_none (by omega), List.getElem?_eq_none (by omega)]
  · have e : ∀ (x : List Int), x.length = n → (x.toArray.extract 0 n).toList = x := fun x hx => by
      rw [Array.toList_extract]; simp [← hx, List.extract]
    rw [e _ hl', e _ hl]
    exact h
/-- The places sorted by the whole order are the list of the reference. -/
theorem sorted_ord {F : Int → Int} {n : Nat} {d' : Array Int} (hp : PermIn 0 n (rangeL n).toArray d') (hs : SortedIn (ltG F) 0 n d') : d' = (ordL F n).toArray := by
  have hn : (rangeL n).toArray.size = n := by simp [rangeL_len]
  have hp1 : PermIn 0 (rangeL n).toArray.size (rangeL n).toArray d' := by rw [hn]; exact hp
  have hs1 : SortedIn (ltG F) 0 (rangeL n).toArray.size d' := by rw [hn]; exact hs
  have hp2 : PermIn 0 (rangeL n).toArray.size (rangeL n).toArray (ordL F n).toArray := by rw [hn]; exact permIn_list (rangeL_len n) (ordL_perm F n)
  have hs2 : SortedIn (ltG F) 0 (rangeL n).toArray.size (ordL F n).toArray := by
    rw [hn]
    intro i j _ h1 h2
    rw [arr_at, arr_at]
    exact pw_get (ordL_pw F n) h1 (by rw [ordL_len]; exact h2)
  have e1 := sorted_unique_holds (ltG_swo F) (ltG_tot F) _ _ hp1 hs1
  have e2 := sorted_unique_holds (ltG_swo F) (ltG_tot F) _ _ hp2 hs2
  apply Array.ext'
  rw [e1, e2]
theorem rangeL_apart (n : Nat) : ∀ i j, i < j → j < n → (rangeL n).toArray[i]! < (rangeL n).toArray[j]! := by
  intro i j h1 h2
  have e : ∀ k, k < n → (rangeL n).getD k 0 = (k : Int) := fun k hk => by
    rw [List.getD_eq_getElem?_getD, rangeL, List.getElem?_map, List.getElem?_range hk]; rfl
  rw [arr_at, arr_at, e i (by omega), e j h2]
  omega
/-- The insertion sort of the places. -/
theorem ins_ord (F : Int → Int) (n : Nat) : insertionSort (ltF F) (rangeL n).toArray 0 n = (ordL F n).toArray := by
  obtain ⟨p, s⟩ := ins_apart (lt := ltF F) (lt2 := ltG F) (ap := fun x y => x < y) (fun x y h => ltF_ap F x y h) (ltG_swo F) (a := 0) (b := n) (d := (rangeL n).toArray) (Nat.zero_le _) (by simp [rangeL_len]) (fun x y _ h1 h2 => rangeL_apart n x y h1 h2)
  exact sorted_ord p s
end Go.Proofs.Yteeplmnjipddaaa
