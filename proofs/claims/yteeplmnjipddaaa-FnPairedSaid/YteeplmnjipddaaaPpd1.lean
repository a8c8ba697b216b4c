/- FnPaired: the plain law. No conditions. -/
import Derived.Test.YteeplmnjipddaaaPr4
import Derived.Test.YteeplmnjipddaaaWays7
import Derived.Test.YteeplmnjipddaaaOrd
namespace Go.Proofs.Yteeplmnjipddaaa
set_option linter.unusedSimpArgs false
set_option linter.unusedVariables false
open Go.RowKit

theorem metB_sym (zs : List Int) (a b : Int) : ∀ c, metB zs a b c = metB zs b a c
  | 0 => rfl
  | c + 1 => by rw [metB, metB, metB_sym zs a b c, Bool.or_comm (zs.getD (c * 2) 0 == a && _)]
theorem metB_no {zs : List Int} {a b : Int} {c j : Nat} (h : metB zs a b c = false) (hj : j < c) : ((zs.getD (j * 2) 0 == a && zs.getD (j * 2 + 1) 0 == b) || (zs.getD (j * 2) 0 == b && zs.getD (j * 2 + 1) 0 == a)) = false := by
  cases hx : ((zs.getD (j * 2) 0 == a && zs.getD (j * 2 + 1) 0 == b) || (zs.getD (j * 2) 0 == b && zs.getD (j * 2 + 1) 0 == a))
  · rfl
  · have h1 : metB zs a b (j + 1) = true := by rw [metB, hx, Bool.or_true]
    have h2 := metB_mono c (by omega) h1
    rw [h] at h2
    exact absurd h2 (by decide)
theorem flipL_at (fs r : List Int) : ∀ K k, k < K → 2 * K ≤ r.length → ((flipL fs r K).getD (2 * k) 0 = r.getD (2 * k) 0 ∧ (flipL fs r K).getD (2 * k + 1) 0 = r.getD (2 * k + 1) 0) ∨ ((flipL fs r K).getD (2 * k) 0 = r.getD (2 * k + 1) 0 ∧ (flipL fs r K).getD (2 * k + 1) 0 = r.getD (2 * k) 0)
  | 0, k, h, _ => absurd h (Nat.not_lt_zero _)
  | K + 1, k, h, hl => by
    have hL := flipL_len fs r K
    by_cases e : k = K
    · subst e
      rw [flipL]
      split
      · right
        constructor
        · rw [List.getD_eq_getElem?_getD, List.getElem?_set_ne (by omega), List.getElem?_set_self (by omega)]; rfl
        · rw [List.getD_eq_getElem?_getD, List.getElem?_set_self (by rw [List.length_set]; omega)]; rfl
      · left
        exact ⟨flipL_later fs r k _ (by omega), flipL_later fs r k _ (by omega)⟩
    · have ih := flipL_at fs r K k (by omega) (by omega)
      rw [flipL]
      split
      · have e1 : ∀ (x y : Int) (j : Nat), j < 2 * K → (((flipL fs r K).set (2 * K) x).set (2 * K + 1) y).getD j 0 = (flipL fs r K).getD j 0 := by
          intro x y j hj
          rw [List.getD_eq_getElem?_getD, List.getElem?_set_ne (by omega), List.getElem?_set_ne (by omega), ← List.getD_eq_getElem?_getD]
        rw [e1 _ _ _ (by omega), e1 _ _ _ (by omega)]
        exact ih
      · exact ih
theorem okPr_at {met : Int → Int → Bool} : ∀ (d : Nat) (r : List Int) (k : Nat), okPr met r → r.length = 2 * d → k < d → met (r.getD (2 * k) 0) (r.getD (2 * k + 1) 0) = false
  | 0, _, _, _, _, h => absurd h (Nat.not_lt_zero _)
  | d + 1, [], _, _, h, _ => absurd h (by simp)
  | d + 1, [_], _, h, _, _ => absurd h id
  | d + 1, a :: b :: r, 0, h, _, _ => h.1
  | d + 1, a :: b :: r, k + 1, h, hl, hk => by
    have ih := okPr_at d r k h.2 (by simp at hl; omega) (by omega)
    rw [show 2 * (k + 1) = 2 * k + 1 + 1 by omega, List.getD_cons_succ, List.getD_cons_succ, List.getD_cons_succ, List.getD_cons_succ]
    exact ih
theorem rangeL_nodup (n : Nat) : (rangeL n).Pairwise (fun x y : Int => x ≠ y) := by
  unfold rangeL
  rw [List.pairwise_map]
  refine List.Pairwise.imp ?_ (List.nodup_range (n := n))
  intro a b h e
  exact h (by omega)
/-- What the pairs are. -/
structure PairsF (l zs : List Int) (n q c : Nat) : Prop where
  len : l.length = q * 2
  at' : ∀ k, k < q → ∃ a b : Nat, l.getD (k * 2) 0 = a ∧ l.getD (k * 2 + 1) 0 = b ∧ a < n ∧ b < n ∧ a ≠ b ∧ metB zs a b c = false ∧ ∀ i, i < k * 2 → (l.getD i 0).toNat ≠ a ∧ (l.getD i 0).toNat ≠ b
theorem pbR_ok {pts zs l : List Int} {n c q : Nat} (h : pbR pts zs n c = (l, q, 0)) : q = n / 2 ∧ PairsF l zs n q c := by
  cases hv : validM n zs
  case false => rw [pbR_bad hv] at h; simp at h
  case true =>
  cases ht : tryN (fun a b => metB zs a b c) n (ordL (ptF pts) n)
  case none => rw [pbR_none hv ht] at h; simp at h
  case some r =>
    rw [pbR_some hv ht] at h
    injection h with h1 h2
    injection h2 with h2 h3
    subst h1 h2
    obtain ⟨hl, hok, L', hs, hp⟩ := tryN_ok (ordL_len _ _) ht
    obtain ⟨_, hm⟩ := try_mem ht
    have hnd : r.Pairwise (fun x y : Int => x ≠ y) := by
      have e1 : (ordL (ptF pts) n).Nodup := (ordL_perm (ptF pts) n).nodup_iff.mpr (rangeL_nodup n)
      exact hp.nodup_iff.mpr (e1.sublist hs)
    have hne : ∀ i j, i < j → j < 2 * (n / 2) → r.getD i 0 ≠ r.getD j 0 := fun i j hij hj => pw_get hnd hij (by omega)
    refine ⟨rfl, by rw [flipL_len]; omega, ?_⟩
    intro k hk
    have hF : ∀ k, k < n / 2 → ∃ i j : Nat, (i = 2 * k ∧ j = 2 * k + 1 ∨ i = 2 * k + 1 ∧ j = 2 * k) ∧ (flipL (fstL n zs c) r (n / 2)).getD (2 * k) 0 = r.getD i 0 ∧ (flipL (fstL n zs c) r (n / 2)).getD (2 * k + 1) 0 = r.getD j 0 := fun k hk => by
      rcases flipL_at (fstL n zs c) r (n / 2) k hk (by omega) with ⟨e1, e2⟩ | ⟨e1, e2⟩
      · exact ⟨_, _, .inl ⟨rfl, rfl⟩, e1, e2⟩
      · exact ⟨_, _, .inr ⟨rfl, rfl⟩, e1, e2⟩
    obtain ⟨i, j, hij, e1, e2⟩ := hF k hk
    have hne' : ∀ i j, i ≠ j → i < 2 * (n / 2) → j < 2 * (n / 2) → r.getD i 0 ≠ r.getD j 0 := fun i j h hi hj => by
      rcases Nat.lt_or_gt_of_ne h with h | h
      · exact hne i j h hj
      · exact fun e => hne j i h hi e.symm
    have hi : i < 2 * (n / 2) := by omega
    have hj : j < 2 * (n / 2) := by omega
    obtain ⟨a0, a1⟩ := hm i hi
    obtain ⟨b0, b1⟩ := hm j hj
    obtain ⟨a, ha⟩ := Int.eq_ofNat_of_zero_le a0
    obtain ⟨b, hb⟩ := Int.eq_ofNat_of_zero_le b0
    have hmet := okPr_at (n / 2) r k hok (by omega) hk
    rw [show 2 * k = k * 2 by omega] at e1 e2
    refine ⟨a, b, e1.trans ha, e2.trans hb, by omega, by omega, ?_, ?_, ?_⟩
    · intro e
      exact hne' i j (by omega) hi hj (by rw [ha, hb, e])
    · rw [← ha, ← hb]
      rcases hij with ⟨rfl, rfl⟩ | ⟨rfl, rfl⟩
      · exact hmet
      · rw [metB_sym]; exact hmet
    · intro m hmk
      have key : ∃ t, t < 2 * k ∧ (flipL (fstL n zs c) r (n / 2)).getD m 0 = r.getD t 0 := by
        obtain ⟨i', j', hij', f1, f2⟩ := hF (m / 2) (by omega)
        by_cases hpar : m % 2 = 0
        · exact ⟨i', by omega, by rw [← f1, show 2 * (m / 2) = m by omega]⟩
        · exact ⟨j', by omega, by rw [← f2, show 2 * (m / 2) + 1 = m by omega]⟩
      obtain ⟨t, ht1, ht2⟩ := key
      rw [ht2]
      have t0 := (hm t (by omega)).1
      constructor
      · intro e
        exact hne' t i (by omega) (by omega) hi (by omega)
      · intro e
        exact hne' t j (by omega) (by omega) hj (by omega)
theorem pbR_ways {pts zs l : List Int} {n c q : Nat} {code v code2 : Int} (h : pbR pts zs n c = (l, q, code)) (h2 : plR n zs c = (v, code2)) (h3 : code2 = 0) : decide (0 < v) = (code == 0) := by
  subst h3
  cases hv : validM n zs
  case false => rw [plR_no hv] at h2; simp at h2
  case true =>
  by_cases hodd : (n : Int) % 2 = 1
  · rw [plR_odd hv hodd] at h2; simp at h2
  · rw [plR_yes hv hodd] at h2
    injection h2 with h2 _
    have hs : ∀ a b, metB zs a b c = metB zs b a c := fun a b => metB_sym zs a b c
    have e1 := ways_pair (fun a b => metB zs a b c) (n / 2) (rangeL n)
    have e2 := pairN_perm (met := fun a b => metB zs a b c) hs (d := n / 2) (l := ordL (ptF pts) n) (l' := rangeL n) (by rw [ordL_len]; omega) (ordL_perm _ _)
    cases ht : tryN (fun a b => metB zs a b c) n (ordL (ptF pts) n)
    case none =>
      rw [pbR_none hv ht] at h
      injection h with _ h
      injection h with _ h
      rw [tryN_even (by omega)] at ht
      rw [ht] at e2
      rw [← e2] at e1
      rw [← h2, ← h]
      exact decide_eq_false (fun hh => by have := e1.mp hh; simp at this)
    case some r =>
      rw [pbR_some hv ht] at h
      injection h with _ h
      injection h with _ h
      rw [tryN_even (by omega)] at ht
      rw [ht] at e2
      rw [← e2] at e1
      rw [← h2, ← h]
      exact decide_eq_true (e1.mpr rfl)
/-- Who has been seen in the first k pairs. -/
def seenA (l : List Int) (n : Nat) : Nat → List Value
  | 0 => List.replicate n (.bool false)
  | k + 1 => ((seenA l n k).set (l.getD (k * 2) 0).toNat (.bool true)).set (l.getD (k * 2 + 1) 0).toNat (.bool true)
theorem seenA_len (l : List Int) (n : Nat) : ∀ k, (seenA l n k).length = n
  | 0 => List.length_replicate
  | k + 1 => by rw [seenA, List.length_set, List.length_set, seenA_len l n k]
theorem seenA_no {l : List Int} {n x : Nat} (hx : x < n) : ∀ k, (∀ i, i < k * 2 → (l.getD i 0).toNat ≠ x) → (seenA l n k)[x]? = some (.bool false)
  | 0, _ => by rw [seenA, List.getElem?_replicate, if_pos hx]
  | k + 1, h => by
    rw [seenA, List.getElem?_set_ne (h (k * 2 + 1) (by omega)), List.getElem?_set_ne (h (k * 2) (by omega))]
    exact seenA_no hx k (fun i hi => h i (by omega))
theorem seenA_at {l : List Int} {n k a b : Nat} (ha : l.getD (k * 2) 0 = a) (hb : l.getD (k * 2 + 1) 0 = b) : (seenA l n (k + 1)).toArray = ((seenA l n k).toArray.setIfInBounds a (.bool true)).setIfInBounds b (.bool true) := by
  rw [seenA, ha, hb, Int.toNat_natCast, Int.toNat_natCast, List.setIfInBounds_toArray, List.setIfInBounds_toArray]
end Go.Proofs.Yteeplmnjipddaaa
