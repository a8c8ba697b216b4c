/- Pairings by points: the plain laws. No conditions. -/
import Derived.Test.YteeplmnjipddaaaWays7
namespace Go.Proofs.Yteeplmnjipddaaa
set_option linter.unusedSimpArgs false
set_option linter.unusedVariables false
open Go.RowKit

/-- The first of m tries that is one. -/
def firstS (f : Nat → Option (List Int)) (m : Nat) : Option (List Int) := (List.range m).findSome? f
theorem firstS_none {f : Nat → Option (List Int)} {m : Nat} (h : ∀ i, i < m → f i = none) : firstS f m = none := by
  unfold firstS
  rw [List.findSome?_eq_none_iff]
  intro x hx
  exact h x (List.mem_range.1 hx)
theorem firstS_hit {f : Nat → Option (List Int)} {r : List Int} {k : Nat} : ∀ m, k < m → (∀ i, i < k → f i = none) → f k = some r → firstS f m = some r
  | 0, h, _, _ => by omega
  | m + 1, h, h1, h2 => by
    unfold firstS
    rw [List.range_succ, List.findSome?_append]
    by_cases e : k < m
    · have ih := firstS_hit m e h1 h2
      unfold firstS at ih
      rw [ih]; rfl
    · obtain rfl : k = m := by omega
      have ih := firstS_none h1
      unfold firstS at ih
      rw [ih]
      simp [h2]
theorem firstS_some {f : Nat → Option (List Int)} {m k : Nat} (hk : k < m) (h : (f k).isSome = true) : (firstS f m).isSome = true := by
  cases hf : firstS f m with
  | some r => rfl
  | none =>
    unfold firstS at hf
    rw [List.findSome?_eq_none_iff] at hf
    rw [hf k (List.mem_range.2 hk)] at h
    cases h
theorem firstS_of {f : Nat → Option (List Int)} {m : Nat} {r : List Int} (h : firstS f m = some r) : ∃ k, k < m ∧ f k = some r := by
  unfold firstS at h
  obtain ⟨k, hk, e⟩ := List.exists_of_findSome?_eq_some h
  exact ⟨k, List.mem_range.1 hk, e⟩
/-- Pairs 2 d players in their order. -/
def pairN (met : Int → Int → Bool) : Nat → List Int → Option (List Int)
  | 0, _ => some []
  | d + 1, l => firstS (fun i => if met (l.getD 0 0) (l.getD (i + 1) 0) then none else (pairN met d (witho l (i + 1))).map (fun r => l.getD 0 0 :: l.getD (i + 1) 0 :: r)) (2 * d + 1)
def prF (met : Int → Int → Bool) (d : Nat) (l : List Int) (i : Nat) : Option (List Int) := if met (l.getD 0 0) (l.getD (i + 1) 0) then none else (pairN met d (witho l (i + 1))).map (fun r => l.getD 0 0 :: l.getD (i + 1) 0 :: r)
theorem pairN_succ (met : Int → Int → Bool) (d : Nat) (l : List Int) : pairN met (d + 1) l = firstS (prF met d l) (2 * d + 1) := rfl
theorem prF_met {met : Int → Int → Bool} {d : Nat} {l : List Int} {i : Nat} (h : met (l.getD 0 0) (l.getD (i + 1) 0) = true) : prF met d l i = none := by rw [prF, if_pos h]
theorem prF_no {met : Int → Int → Bool} {d : Nat} {l : List Int} {i : Nat} (h : met (l.getD 0 0) (l.getD (i + 1) 0) = false) : prF met d l i = (pairN met d (witho l (i + 1))).map (fun r => l.getD 0 0 :: l.getD (i + 1) 0 :: r) := by rw [prF, if_neg (by rw [h]; decide)]
/-- Pairs, of whom none has met. -/
def okPr (met : Int → Int → Bool) : List Int → Prop
  | [] => True
  | [_] => False
  | a :: b :: r => met a b = false ∧ okPr met r
theorem witho_perm {l : List Int} {i : Nat} (h : i + 1 < l.length) : l.Perm (l.getD 0 0 :: l.getD (i + 1) 0 :: witho l (i + 1)) := by
  cases l with
  | nil => simp at h
  | cons x t =>
    have hi : i < t.length := by simpa using h
    have e1 : (x :: t).getD 0 0 = x := rfl
    have e2 : (x :: t).getD (i + 1) 0 = t[i] := by simp [List.getD_eq_getElem?_getD, List.getElem?_eq_getElem hi]
    have e3 : witho (x :: t) (i + 1) = t.take i ++ t.drop (i + 1) := by simp [witho]
    rw [e1, e2, e3]
    refine List.Perm.cons x ?_
    have h4 : t = t.take i ++ t[i] :: t.drop (i + 1) := by rw [← List.drop_eq_getElem_cons hi, List.take_append_drop]
    have h5 := List.perm_middle (a := t[i]) (l₁ := t.take i) (l₂ := t.drop (i + 1))
    rwa [← h4] at h5
theorem pairN_ok (met : Int → Int → Bool) : ∀ d l r, l.length = 2 * d → pairN met d l = some r → r.Perm l ∧ okPr met r ∧ r.length = 2 * d
  | 0, l, r, hl, h => by
    injection h with h
    subst h
    have : l = [] := List.eq_nil_of_length_eq_zero (by omega)
    subst this
    exact ⟨List.Perm.refl _, trivial, rfl⟩
  | d + 1, l, r, hl, h => by
    rw [pairN_succ] at h
    obtain ⟨k, hk, e⟩ := firstS_of h
    cases hm : met (l.getD 0 0) (l.getD (k + 1) 0)
    case true => rw [prF_met hm] at e; cases e
    case false =>
      rw [prF_no hm] at e
      cases hp : pairN met d (witho l (k + 1)) with
      | none => rw [hp] at e; cases e
      | some r' =>
        rw [hp] at e
        injection e with e
        obtain ⟨p1, p2, p3⟩ := pairN_ok met d _ r' (by rw [witho_len (by omega) (by omega)]; omega) hp
        rw [← e]
        exact ⟨((p1.cons _).cons _).trans (witho_perm (by omega)).symm, ⟨hm, p2⟩, by simp [p3]; omega⟩
theorem okPr_take {met : Int → Int → Bool} (hs : ∀ a b, met a b = met b a) : ∀ (r : List Int) (x : Int), okPr met r → x ∈ r → ∃ y r', r.Perm (x :: y :: r') ∧ met x y = false ∧ okPr met r'
  | [], x, _, h => by simp at h
  | [_], x, h, _ => h.elim
  | a :: b :: r, x, h, hx => by
    by_cases e : x = a
    · subst e; exact ⟨b, r, List.Perm.refl _, h.1, h.2⟩
    · by_cases e2 : x = b
      · subst e2; exact ⟨a, r, List.Perm.swap _ _ _, by rw [hs]; exact h.1, h.2⟩
      · have hx' : x ∈ r := by
          rcases List.mem_cons.1 hx with h1 | h1
          · exact absurd h1 e
          · rcases List.mem_cons.1 h1 with h2 | h2
            · exact absurd h2 e2
            · exact h2
        obtain ⟨y, r', p, m, o⟩ := okPr_take hs r x h.2 hx'
        refine ⟨y, a :: b :: r', ?_, m, ⟨h.1, o⟩⟩
        have q1 : (a :: b :: r).Perm (a :: b :: x :: y :: r') := (p.cons b).cons a
        have q2 : (a :: b :: x :: y :: r').Perm (x :: y :: a :: b :: r') := by
          have := List.perm_append_comm_assoc [a, b] [x, y] r'
          simpa using this
        exact q1.trans q2
theorem pairN_full {met : Int → Int → Bool} (hs : ∀ a b, met a b = met b a) : ∀ d l r, l.length = 2 * d → r.Perm l → okPr met r → (pairN met d l).isSome = true
  | 0, _, _, _, _, _ => rfl
  | d + 1, l, r, hl, hp, ho => by
    have h0 : l.getD 0 0 ∈ l := getD_mem 0 (by omega)
    obtain ⟨y, r', p, m, o⟩ := okPr_take hs r (l.getD 0 0) ho (hp.mem_iff.2 h0)
    -- where y stands
    obtain ⟨t, ht⟩ : ∃ t, l = l.getD 0 0 :: t := by
      cases l with
      | nil => simp at hl
      | cons x t => exact ⟨t, rfl⟩
    have q : (l.getD 0 0 :: y :: r').Perm (l.getD 0 0 :: t) := by rw [← ht]; exact p.symm.trans hp
    have q2 := List.Perm.cons_inv q
    have hy : y ∈ t := q2.mem_iff.1 (List.mem_cons_self ..)
    obtain ⟨i, hi, e⟩ := List.getElem_of_mem hy
    have hl' : l.length = t.length + 1 := by rw [ht]; rfl
    have e1 : l.getD (i + 1) 0 = y := by
      rw [ht]
      show (_ :: t).getD (i + 1) 0 = y
      rw [List.getD_eq_getElem?_getD, List.getElem?_cons_succ, List.getElem?_eq_getElem hi, e]
      rfl
    have q3 := witho_perm (l := l) (i := i) (by omega)
    rw [e1] at q3
    have q4 : r'.Perm (witho l (i + 1)) := by
      have : (l.getD 0 0 :: y :: r').Perm (l.getD 0 0 :: y :: witho l (i + 1)) := (p.symm.trans hp).trans q3
      exact List.Perm.cons_inv (List.Perm.cons_inv this)
    have ih := pairN_full hs d _ r' (by rw [witho_len (by omega) (by omega)]; omega) q4 o
    rw [pairN_succ]
    refine firstS_some (k := i) (by omega) ?_
    rw [prF_no (by rw [e1]; exact m), Option.isSome_map]
    exact ih
theorem pairN_perm {met : Int → Int → Bool} (hs : ∀ a b, met a b = met b a) {d : Nat} {l l' : List Int} (hl : l.length = 2 * d) (hp : l.Perm l') : (pairN met d l).isSome = (pairN met d l').isSome := by
  have hl' : l'.length = 2 * d := by rw [← hp.length_eq]; exact hl
  rw [Bool.eq_iff_iff]
  constructor
  · intro h
    obtain ⟨r, hr⟩ := Option.isSome_iff_exists.1 h
    obtain ⟨p, o, _⟩ := pairN_ok met d l r hl hr
    exact pairN_full hs d l' r hl' (p.trans hp) o
  · intro h
    obtain ⟨r, hr⟩ := Option.isSome_iff_exists.1 h
    obtain ⟨p, o, _⟩ := pairN_ok met d l' r hl' hr
    exact pairN_full hs d l r hl (p.trans hp.symm) o
theorem sumW_pos {f : Nat → Int} : ∀ m, (∀ i, i < m → 0 ≤ f i) → (0 < sumW f m ↔ ∃ i, i < m ∧ 0 < f i)
  | 0, _ => by simp [sumW]
  | m + 1, h => by
    have ih := sumW_pos m (fun i hi => h i (by omega))
    have h0 : ∀ k, k ≤ m → 0 ≤ sumW f k := fun k hk => by
      induction k with
      | zero => exact Int.le_refl _
      | succ k ihk => rw [sumW]; have := ihk (by omega); have := h k (by omega); omega
    have hm := h m (by omega)
    have hs := h0 m (Nat.le_refl _)
    rw [sumW]
    constructor
    · intro hp
      by_cases q : 0 < sumW f m
      · obtain ⟨i, hi, e⟩ := ih.1 q
        exact ⟨i, by omega, e⟩
      · exact ⟨m, by omega, by omega⟩
    · rintro ⟨i, hi, e⟩
      by_cases q : i < m
      · have := ih.2 ⟨i, q, e⟩; omega
      · obtain rfl : i = m := by omega
        omega
theorem ways_pair (met : Int → Int → Bool) : ∀ d l, (0 < waysN met d l ↔ (pairN met d l).isSome = true)
  | 0, l => by simp [waysN, pairN]
  | d + 1, l => by
    rw [waysN_succ, pairN_succ, sumW_pos _ (fun i _ => by
      unfold wayF
      split
      · exact Int.le_refl _
      · exact (waysN_bd met d _).1)]
    constructor
    · rintro ⟨i, hi, h⟩
      refine firstS_some hi ?_
      cases hm : met (l.getD 0 0) (l.getD (i + 1) 0)
      case true => rw [wayF, if_pos hm] at h; omega
      case false =>
        rw [wayF, if_neg (by rw [hm]; decide)] at h
        rw [prF_no hm, Option.isSome_map]
        exact (ways_pair met d _).1 h
    · intro h
      obtain ⟨r, hr⟩ := Option.isSome_iff_exists.1 h
      obtain ⟨k, hk, e⟩ := firstS_of hr
      refine ⟨k, hk, ?_⟩
      cases hm : met (l.getD 0 0) (l.getD (k + 1) 0)
      case true => rw [prF_met hm] at e; cases e
      case false =>
        rw [prF_no hm] at e
        rw [wayF, if_neg (by rw [hm]; decide)]
        refine (ways_pair met d _).2 ?_
        cases hp : pairN met d (witho l (k + 1)) with
        | none => rw [hp] at e; cases e
        | some r' => rfl
/-- Players without the one at a place. -/
def leave (l : List Int) (k : Nat) : List Int := l.take k ++ l.drop (k + 1)
theorem leave_len {l : List Int} {k : Nat} (h : k < l.length) : (leave l k).length = l.length - 1 := by
  rw [leave, List.length_append, List.length_take, List.length_drop]; omega
theorem leave_mem {l : List Int} {k : Nat} {x : Int} (h : x ∈ leave l k) : x ∈ l := by
  rw [leave, List.mem_append] at h
  rcases h with h | h
  · exact List.mem_of_mem_take h
  · exact List.mem_of_mem_drop h
theorem leave_sub (l : List Int) (k : Nat) : (leave l k).Sublist l := by
  rw [leave, ← List.eraseIdx_eq_take_drop_succ]
  exact List.eraseIdx_sublist _ _
/-- Pairs n players in their order, without the last one who can be left out if their number is odd. -/
def tryN (met : Int → Int → Bool) (n : Nat) (l : List Int) : Option (List Int) := if n % 2 = 0 then pairN met (n / 2) l else firstS (fun i => pairN met (n / 2) (leave l (n - 1 - i))) n
/-- The one who has moved first less often moves first, in the first k meetings. -/
def flipL (fs : List Int) (l : List Int) : Nat → List Int
  | 0 => l
  | k + 1 => if fs.getD (l.getD (2 * k + 1) 0).toNat 0 < fs.getD (l.getD (2 * k) 0).toNat 0 then ((flipL fs l k).set (2 * k) (l.getD (2 * k + 1) 0)).set (2 * k + 1) (l.getD (2 * k) 0) else flipL fs l k
theorem flipL_len (fs l : List Int) : ∀ k, (flipL fs l k).length = l.length
  | 0 => rfl
  | k + 1 => by
    rw [flipL]
    split
    · rw [List.length_set, List.length_set, flipL_len fs l k]
    · exact flipL_len fs l k
theorem flipL_later (fs l : List Int) : ∀ k j, 2 * k ≤ j → (flipL fs l k).getD j 0 = l.getD j 0
  | 0, _, _ => rfl
  | k + 1, j, h => by
    rw [flipL]
    split
    · rw [List.getD_eq_getElem?_getD, List.getElem?_set_ne (by omega), List.getElem?_set_ne (by omega), ← List.getD_eq_getElem?_getD]
      exact flipL_later fs l k j (by omega)
    · exact flipL_later fs l k j (by omega)
end Go.Proofs.Yteeplmnjipddaaa
