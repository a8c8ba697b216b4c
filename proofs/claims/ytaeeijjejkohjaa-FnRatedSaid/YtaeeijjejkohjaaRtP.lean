/- Periods in any order; one game. No conditions. -/
import Derived.Test.YtaeeijjejkohjaaRated4
import Derived.Test.YtaeeijjejkohjaaGame2
namespace Go.Proofs.Ytaeeijjejkohjaa
set_option linter.unusedSimpArgs false
set_option linter.unusedVariables false
open Go.RowKit

theorem expE_sw (d : Int) : expE (-d) = 1000 - expE d := by
  unfold expE
  rcases Int.lt_trichotomy d 0 with h | h | h
  · rw [if_neg (by omega), if_pos h]; omega
  · subst h; decide
  · rw [if_pos (by omega), if_neg (by omega), show - -d = d by omega]
def sumF (f : Nat → Int) : Nat → Int
  | 0 => 0
  | k + 1 => sumF f k + f k
theorem sumF_congr {f g : Nat → Int} : ∀ k, (∀ i, i < k → f i = g i) → sumF f k = sumF g k
  | 0, _ => rfl
  | k + 1, h => by rw [sumF, sumF, sumF_congr k (fun i hi => h i (by omega)), h k (by omega)]
theorem sumF_front (f : Nat → Int) : ∀ k, sumF f (k + 1) = f 0 + sumF (fun i => f (i + 1)) k
  | 0 => by simp [sumF]
  | k + 1 => by rw [sumF, sumF_front f k, sumF]; omega
theorem sumF_rev (f : Nat → Int) : ∀ m, sumF (fun i => f (m - 1 - i)) m = sumF f m
  | 0 => rfl
  | m + 1 => by
    rw [sumF_front]
    have h : sumF (fun i => f (m + 1 - 1 - (i + 1))) m = sumF (fun i => f (m - 1 - i)) m := sumF_congr m (fun i hi => by congr 1; omega)
    rw [h, sumF_rev f m, sumF]
    show f m + sumF f m = _
    omega
def cS (L G : List Int) (j i : Nat) : Int := (if ix G (i * 3) = j then ownG L G i else 0) + (if ix G (i * 3 + 1) = j then -(ownG L G i) else 0)
def cC (G : List Int) (j i : Nat) : Int := (if ix G (i * 3) = j then 1 else 0) + (if ix G (i * 3 + 1) = j then 1 else 0)
theorem add2_at {s : List Int} {a b j n : Nat} {v u : Int} (hs : s.length = n) (ha : a < n) (hb : b < n) (hab : a ≠ b) : (add1 (add1 s a v) b u).getD j 0 = s.getD j 0 + ((if a = j then v else 0) + (if b = j then u else 0)) := by
  rw [add1_at, add1_at, add1_at, add1_len]
  by_cases h1 : a = j
  · by_cases h2 : b = j
    · omega
    · rw [if_neg (fun h => h2 h.1), if_pos ⟨h1, by omega⟩, if_pos h1, if_neg h2, h1]; omega
  · by_cases h2 : b = j
    · rw [if_pos ⟨h2, by omega⟩, if_neg (fun h => hab h.1), if_neg h1, if_pos h2, h2]; omega
    · rw [if_neg (fun h => h2 h.1), if_neg (fun h => h1 h.1), if_neg h1, if_neg h2]; omega
theorem gok_ix {L G : List Int} {n m k : Nat} (h : GOk L G n m) (hk : k < m) : ix G (k * 3) < n ∧ ix G (k * 3 + 1) < n ∧ ix G (k * 3) ≠ ix G (k * 3 + 1) := by
  have h1 := h.a k hk
  have h2 := h.b k hk
  have h3 := h.ne k hk
  unfold ix
  omega
theorem sumsL_sum {L G : List Int} {n m : Nat} (h : GOk L G n m) (j : Nat) : ∀ k, k ≤ m → (sumsL L G n k).getD j 0 = sumF (cS L G j) k
  | 0, _ => by rw [sumsL, rep_zero]; rfl
  | k + 1, hk => by
    obtain ⟨a1, a2, a3⟩ := gok_ix h (show k < m by omega)
    rw [sumsL, add2_at (sumsL_len L G n k) a1 a2 a3, sumsL_sum h j k (by omega), sumF, cS]
theorem cntL_sum {L G : List Int} {n m : Nat} (h : GOk L G n m) (j : Nat) : ∀ k, k ≤ m → (cntL G n k).getD j 0 = sumF (cC G j) k
  | 0, _ => by rw [cntL, rep_zero]; rfl
  | k + 1, hk => by
    obtain ⟨a1, a2, a3⟩ := gok_ix h (show k < m by omega)
    rw [cntL, add2_at (cntL_len G n k) a1 a2 a3, cntL_sum h j k (by omega), sumF, cC]
/-- The games from the last to the first, seen from the other side. -/
def turnL (G : List Int) (m : Nat) : Nat → List Int
  | 0 => []
  | k + 1 => turnL G m k ++ [G.getD ((m - 1 - k) * 3 + 1) 0, G.getD ((m - 1 - k) * 3) 0, 2 - G.getD ((m - 1 - k) * 3 + 2) 0]
theorem turnL_len (G : List Int) (m k : Nat) : (turnL G m k).length = k * 3 := by
  induction k with
  | zero => rfl
  | succ k ih => rw [turnL, List.length_append, ih]; simp; omega
theorem turnL_at (G : List Int) (m : Nat) : ∀ k i, i < k → (turnL G m k).getD (i * 3) 0 = G.getD ((m - 1 - i) * 3 + 1) 0 ∧ (turnL G m k).getD (i * 3 + 1) 0 = G.getD ((m - 1 - i) * 3) 0 ∧ (turnL G m k).getD (i * 3 + 2) 0 = 2 - G.getD ((m - 1 - i) * 3 + 2) 0
  | 0, i, h => by omega
  | k + 1, i, h => by
    have hl := turnL_len G m k
    by_cases hik : i < k
    · obtain ⟨e0, e1, e2⟩ := turnL_at G m k i hik
      rw [turnL]
      refine ⟨?_, ?_, ?_⟩ <;> rw [List.getD_eq_getElem?_getD, List.getElem?_append_left (by omega), ← List.getD_eq_getElem?_getD] <;> assumption
    · obtain rfl : i = k := by omega
      rw [turnL]
      refine ⟨?_, ?_, ?_⟩ <;> rw [List.getD_eq_getElem?_getD, List.getElem?_append_right (by omega)] <;> simp [hl]
theorem gok_turn {L G : List Int} {n m : Nat} (h : GOk L G n m) : GOk L (turnL G m m) n m := by
  refine ⟨fun k hk => ?_, fun k hk => ?_, fun k hk => ?_, fun k hk => ?_, h.r⟩
  all_goals obtain ⟨e0, e1, e2⟩ := turnL_at G m m k hk
  · rw [e0]; exact h.b _ (by omega)
  · rw [e1]; exact h.a _ (by omega)
  · rw [e0, e1]; exact Ne.symm (h.ne _ (by omega))
  · rw [e2]; have := h.s (m - 1 - k) (by omega); omega
theorem ix_turn {G : List Int} {m i : Nat} (hi : i < m) : ix (turnL G m m) (i * 3) = ix G ((m - 1 - i) * 3 + 1) ∧ ix (turnL G m m) (i * 3 + 1) = ix G ((m - 1 - i) * 3) := by
  obtain ⟨e0, e1, e2⟩ := turnL_at G m m i hi
  unfold ix
  rw [e0, e1]
  exact ⟨rfl, rfl⟩
theorem ownG_turn {L G : List Int} {m i : Nat} (hi : i < m) : ownG L (turnL G m m) i = -(ownG L G (m - 1 - i)) := by
  obtain ⟨e0, e1, e2⟩ := turnL_at G m m i hi
  obtain ⟨i0, i1⟩ := ix_turn (G := G) hi
  unfold ownG
  rw [e2, i0, i1]
  have h := expE_sw (L.getD (ix G ((m - 1 - i) * 3) * 2) 0 - L.getD (ix G ((m - 1 - i) * 3 + 1) * 2) 0)
  rw [show -(L.getD (ix G ((m - 1 - i) * 3) * 2) 0 - L.getD (ix G ((m - 1 - i) * 3 + 1) * 2) 0) = L.getD (ix G ((m - 1 - i) * 3 + 1) * 2) 0 - L.getD (ix G ((m - 1 - i) * 3) * 2) 0 by omega] at h
  rw [h]
  omega
theorem list_getD {a b : List Int} (hl : a.length = b.length) (h : ∀ j, j < a.length → a.getD j 0 = b.getD j 0) : a = b := by
  apply List.ext_getElem hl
  intro j h1 h2
  have := h j h1
  rw [List.getD_eq_getElem?_getD, List.getD_eq_getElem?_getD, List.getElem?_eq_getElem h1, List.getElem?_eq_getElem h2] at this
  exact this
theorem rated_turn {L G : List Int} {n m : Nat} (h : GOk L G n m) : ratedL L (turnL G m m) n m = ratedL L G n m := by
  have h2 := gok_turn h
  have e1 : sumsL L (turnL G m m) n m = sumsL L G n m := by
    apply list_getD (by rw [sumsL_len, sumsL_len])
    intro j _
    rw [sumsL_sum h2 j m (Nat.le_refl _), sumsL_sum h j m (Nat.le_refl _), ← sumF_rev (cS L G j) m]
    apply sumF_congr
    intro i hi
    obtain ⟨i0, i1⟩ := ix_turn (G := G) hi
    rw [cS, i0, i1, ownG_turn hi, cS, Int.neg_neg, Int.add_comm]
  have e2 : cntL (turnL G m m) n m = cntL G n m := by
    apply list_getD (by rw [cntL_len, cntL_len])
    intro j _
    rw [cntL_sum h2 j m (Nat.le_refl _), cntL_sum h j m (Nat.le_refl _), ← sumF_rev (cC G j) m]
    apply sumF_congr
    intro i hi
    obtain ⟨i0, i1⟩ := ix_turn (G := G) hi
    rw [cC, i0, i1, cC, Int.add_comm]
  rw [ratedL, ratedL, e1, e2]
theorem rpE_turn {L G : List Int} {n m : Nat} (h : rpE L G n m = 0) : rpE L (turnL G m m) n m = 0 := by
  obtain ⟨k1, k2, k3, k4⟩ := rpE_cases h
  have hg := gok_turn (GOk_of k1 k2)
  refine rpE_0 k1 (okG_yes fun i hi => ?_) k3 k4
  have a := hg.a i hi
  have b := hg.b i hi
  have c := hg.ne i hi
  have d := hg.s i hi
  have e1 := inB_t a.1 (show _ ≤ (n : Int) - 1 by have := a.2; omega)
  have e2 := inB_t b.1 (show _ ≤ (n : Int) - 1 by have := b.2; omega)
  rw [gOk, e1, e2, beq_eq_false_iff_ne.2 c, inB_t d.1 d.2]
  rfl
theorem rpR_turn {L G l : List Int} {n m n' : Nat} (h : rpR L G n m = (l, n', 0)) : n' = n ∧ rpR L (turnL G m m) n m = (l, n, 0) := by
  have h0 : rpE L G n m = 0 := by
    rcases Int.decEq (rpE L G n m) 0 with q | q
    · rw [rpR, if_neg q] at h; exact absurd (congrArg (fun t : List Int × Nat × Int => t.2.2) h) q
    · exact q
  obtain ⟨k1, k2, k3, k4⟩ := rpE_cases h0
  rw [rpR_0 h0] at h
  injection h with e1 h2; injection h2 with e2 _
  rw [rpR_0 (rpE_turn h0), rated_turn (GOk_of k1 k2), e1]
  exact ⟨e2.symm, rfl⟩
theorem outL_at (L S C : List Int) : ∀ k i, i < k → (outL L S C k).getD (i * 2) 0 = mvA (L.getD (i * 2) 0) (L.getD (i * 2 + 1) 0) (S.getD i 0) ∧ (outL L S C k).getD (i * 2 + 1) 0 = mvB (L.getD (i * 2 + 1) 0) (C.getD i 0)
  | 0, i, h => by omega
  | k + 1, i, h => by
    have hl := outL_len L S C k
    by_cases hik : i < k
    · obtain ⟨e0, e1⟩ := outL_at L S C k i hik
      rw [outL]
      refine ⟨?_, ?_⟩ <;> rw [List.getD_eq_getElem?_getD, List.getElem?_append_left (by omega), ← List.getD_eq_getElem?_getD] <;> assumption
    · obtain rfl : i = k := by omega
      rw [outL]
      refine ⟨?_, ?_⟩ <;> rw [List.getD_eq_getElem?_getD, List.getElem?_append_right (by omega)] <;> simp [hl]
theorem rpR_valid {L G l : List Int} {n m n' : Nat} {code : Int} (h : rpR L G n m = (l, n', code)) : ∀ i, i < n' → validB (l.getD (i * 2) 0) (l.getD (i * 2 + 1) 0) = true := by
  rcases Int.decEq (rpE L G n m) 0 with q | q
  · rw [rpR, if_neg q] at h; injection h with _ h2; injection h2 with h3 _; intro i hi; omega
  · obtain ⟨k1, k2, k3, k4⟩ := rpE_cases q
    have hg := GOk_of k1 k2
    rw [rpR_0 q] at h
    injection h with e1 h2; injection h2 with e2 _
    intro i hi
    obtain ⟨o1, o2⟩ := outL_at L (sumsL L G n m) (cntL G n m) n i (by omega)
    rw [← e1, ratedL, o1, o2, validB]
    have hr := hg.r i (by omega)
    have hc := cntL_bd G n m i
    rw [inB_t (by unfold mvA; omega) (by unfold mvA; omega), inB_t (by unfold mvB; omega) (by unfold mvB; omega)]
    rfl
theorem rg_rp {a0 b0 a1 b1 sc x0 x1 x2 x3 : Int} (h : rgR a0 b0 a1 b1 sc = ((x0, x1, x2, x3), 0)) : rpR [a0, b0, a1, b1] [0, 1, sc] 2 1 = ([x0, x1, x2, x3], 2, 0) := by
  unfold rgR at h
  cases q1 : validB a0 b0
  · rw [q1] at h; obtain ⟨_, _, _, _, e⟩ := quint h; exact absurd e (by decide)
  cases q2 : validB a1 b1
  · rw [q1, q2] at h; obtain ⟨_, _, _, _, e⟩ := quint h; exact absurd e (by decide)
  cases q3 : inB sc 0 2
  · rw [q1, q2, q3] at h; obtain ⟨_, _, _, _, e⟩ := quint h; exact absurd e (by decide)
  rw [q1, q2, q3, Bool.and_true, if_pos rfl, if_pos rfl] at h
  obtain ⟨e0, e1, e2, e3, _⟩ := quint h
  have hE : rpE [a0, b0, a1, b1] [0, 1, sc] 2 1 = 0 := by
    refine rpE_0 (okL_yes fun k hk => ?_) (okG_yes fun i hi => ?_) (by omega) (by omega)
    · have : k = 0 ∨ k = 1 := by omega
      rcases this with rfl | rfl
      · exact q1
      · exact q2
    · obtain rfl : i = 0 := by omega
      show gOk 1 0 1 sc = true
      rw [gOk, q3]; rfl
  rw [rpR_0 hE, ratedL_two, e0, e1, e2, e3]
end Go.Proofs.Ytaeeijjejkohjaa
