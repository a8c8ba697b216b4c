/- Pairings: players by their points, by the reference. Conditions: at most 12 players. -/
import Derived.Test.YteeplmnjipddaaaDoorG15
import Derived.Deep.RegionWith
import Derived.Test.YteeplmnjipddaaaDoorG03
/- Pairings: who has met, as a table; the ways to pair. Conditions: at most 12 players. -/
namespace Go.Proofs.YteeplmnjipddaaaDoor
set_option linter.unusedSimpArgs false
set_option linter.unusedVariables false
open Go.RowKit Go.WideShapes

/-- The table of those who have met in the first k meetings. -/
def metC (zs : List Int) (k : Nat) : Array Value := ((List.range 144).map fun i : Nat => Value.bool (metB zs ((i / 12 : Nat) : Int) ((i % 12 : Nat) : Int) k)).toArray
theorem metC_at {zs : List Int} {k a b : Nat} (ha : a < 12) (hb : b < 12) : (metC zs k)[a * 12 + b]? = some (.bool (metB zs a b k)) := by
  have e1 : (a * 12 + b) / 12 = a := by omega
  have e2 : (a * 12 + b) % 12 = b := by omega
  simp only [metC, List.getElem?_toArray, List.getElem?_map]
  rw [List.getElem?_range (by omega)]
  simp only [Option.map_some, e1, e2]
theorem metC_zero (zs : List Int) : metC zs 0 = (List.replicate 144 (Value.bool false)).toArray := by
  simp only [metC, metB]
  rfl
theorem metC_step {zs : List Int} {k x y : Nat} (hx : x < 12) (hy : y < 12) (h1 : zs.getD (k * 2) 0 = (x : Int)) (h2 : zs.getD (k * 2 + 1) 0 = (y : Int)) : ((metC zs k).setIfInBounds (x * 12 + y) (.bool true)).setIfInBounds (y * 12 + x) (.bool true) = metC zs (k + 1) := by
  apply Array.ext_getElem?
  intro i
  by_cases hi : i < 144
  · obtain ⟨a, b, hb, rfl⟩ : ∃ a b, b < 12 ∧ i = a * 12 + b := ⟨i / 12, i % 12, Nat.mod_lt _ (by omega), by omega⟩
    have ha : a < 12 := by omega
    have hs : (metC zs k).size = 144 := by simp [metC]
    rw [metC_at ha hb, metB, h1, h2, Array.getElem?_setIfInBounds, Array.getElem?_setIfInBounds, metC_at ha hb]
    simp only [Array.size_setIfInBounds, hs]
    by_cases e1 : y * 12 + x = a * 12 + b
    · have e2 : y = a := by omega
      have e3 : x = b := by omega
      subst e2 e3
      rw [if_pos rfl, if_pos (by omega)]
      simp
    · rw [if_neg e1]
      by_cases e2 : x * 12 + y = a * 12 + b
      · have e3 : x = a := by omega
        have e4 : y = b := by omega
        subst e3 e4
        rw [if_pos rfl, if_pos (by omega)]
        simp
      · rw [if_neg e2]
        have n1 : (((x : Int) == (a : Int)) && ((y : Int) == (b : Int))) = false := by
          rw [Bool.and_eq_false_iff, beq_eq_false_iff_ne, beq_eq_false_iff_ne]; omega
        have n2 : (((x : Int) == (b : Int)) && ((y : Int) == (a : Int))) = false := by
          rw [Bool.and_eq_false_iff, beq_eq_false_iff_ne, beq_eq_false_iff_ne]; omega
        rw [n1, n2, Bool.or_self, Bool.or_false]
  · have h1' : (metC zs (k + 1)).size = 144 := by simp [metC]
    have h2' : (((metC zs k).setIfInBounds (x * 12 + y) (.bool true)).setIfInBounds (y * 12 + x) (.bool true)).size = 144 := by simp [metC]
    rw [Array.getElem?_eq_none (by omega), Array.getElem?_eq_none (by omega)]
end Go.Proofs.YteeplmnjipddaaaDoor
/- Pairings: the ways to pair an even number of players, by both functions. Conditions: at most 12 players. -/
namespace Go.Proofs.YteeplmnjipddaaaDoor
set_option linter.unusedSimpArgs false
set_option linter.unusedVariables false
open Go.RowKit Go.WideShapes

def sumW (f : Nat → Int) : Nat → Int
  | 0 => 0
  | k + 1 => sumW f k + f k
theorem sumW_bd {f : Nat → Int} {M : Int} (hM : 0 ≤ M) : ∀ k, (∀ i, i < k → 0 ≤ f i ∧ f i ≤ M) → 0 ≤ sumW f k ∧ sumW f k ≤ (k : Int) * M
  | 0, _ => by simp [sumW]
  | k + 1, h => by
    obtain ⟨a, b⟩ := sumW_bd hM k (fun i hi => h i (by omega))
    obtain ⟨c, d⟩ := h k (by omega)
    rw [sumW, Int.natCast_add, Int.add_mul]
    omega
/-- In how many ways 2 d players can be paired. -/
def waysN (met : Int → Int → Bool) : Nat → List Int → Int
  | 0, _ => 1
  | d + 1, l => sumW (fun i => if met (l.getD 0 0) (l.getD (i + 1) 0) then 0 else waysN met d (witho l (i + 1))) (2 * d + 1)
def dfac : Nat → Int
  | 0 => 1
  | d + 1 => ((2 * d + 1 : Nat) : Int) * dfac d
theorem dfac_pos : ∀ d, 0 ≤ dfac d
  | 0 => by decide
  | d + 1 => by rw [dfac]; exact Int.mul_nonneg (by omega) (dfac_pos d)
theorem waysN_bd (met : Int → Int → Bool) : ∀ d l, 0 ≤ waysN met d l ∧ waysN met d l ≤ dfac d
  | 0, l => by rw [waysN, dfac]; decide
  | d + 1, l => by
    rw [waysN, dfac]
    refine sumW_bd (dfac_pos d) _ (fun i _ => ?_)
    have h0 := dfac_pos d
    have h := waysN_bd met d (witho l (i + 1))
    split
    · exact ⟨Int.le_refl _, h0⟩
    · exact h
def wayF (met : Int → Int → Bool) (d : Nat) (l : List Int) (i : Nat) : Int := if met (l.getD 0 0) (l.getD (i + 1) 0) then 0 else waysN met d (witho l (i + 1))
theorem waysN_succ (met : Int → Int → Bool) (d : Nat) (l : List Int) : waysN met (d + 1) l = sumW (wayF met d l) (2 * d + 1) := rfl
theorem dfac_small {d : Nat} (h : d ≤ 5) : dfac d ≤ 945 := by
  have : d = 0 ∨ d = 1 ∨ d = 2 ∨ d = 3 ∨ d = 4 ∨ d = 5 := by omega
  rcases this with rfl | rfl | rfl | rfl | rfl | rfl <;> decide
theorem wayF_bd {met : Int → Int → Bool} {d : Nat} (h : d ≤ 5) (l : List Int) (i : Nat) : 0 ≤ wayF met d l i ∧ wayF met d l i ≤ 945 := by
  have h1 := waysN_bd met d (witho l (i + 1))
  have h2 := dfac_small h
  unfold wayF
  split
  · decide
  · omega
theorem sumW_small {met : Int → Int → Bool} {d : Nat} (h : d ≤ 5) (l : List Int) {k : Nat} (hk : k ≤ 11) : 0 ≤ sumW (wayF met d l) k ∧ sumW (wayF met d l) k ≤ 10395 := by
  obtain ⟨a, b⟩ := sumW_bd (f := wayF met d l) (M := 945) (by decide) k (fun i _ => wayF_bd h l i)
  have : (k : Int) * 945 ≤ 11 * 945 := by omega
  exact ⟨a, by omega⟩
end Go.Proofs.YteeplmnjipddaaaDoor
/- Pairings: players by their points, by the reference. Conditions: at most 12 players. -/
namespace Go.Proofs.YteeplmnjipddaaaDoor
set_option linter.unusedSimpArgs false
set_option linter.unusedVariables false
open Go.RowKit Go.WideShapes

/-- The place for points v among the first k players. -/
def posL (F : Int → Int) (v : Int) (O : List Int) : Nat → Nat
  | 0 => 0
  | k + 1 => if F (O.getD k 0) < v then posL F v O k else k + 1
theorem posL_le (F : Int → Int) (v : Int) (O : List Int) : ∀ k, posL F v O k ≤ k
  | 0 => Nat.le_refl _
  | k + 1 => by
    rw [posL]
    split
    · exact Nat.le_succ_of_le (posL_le F v O k)
    · exact Nat.le_refl _
/-- The first n players by their points, the greatest ones first, then by number. -/
def ordL (F : Int → Int) : Nat → List Int
  | 0 => []
  | i + 1 => (ordL F i).take (posL F (F i) (ordL F i) i) ++ [(i : Int)] ++ (ordL F i).drop (posL F (F i) (ordL F i) i)
theorem ordL_len (F : Int → Int) : ∀ n, (ordL F n).length = n
  | 0 => rfl
  | n + 1 => by
    have h := ordL_len F n
    have h2 := posL_le F (F n) (ordL F n) n
    rw [ordL, List.length_append, List.length_append, List.length_take, List.length_drop, h]
    simp only [List.length_cons, List.length_nil]
    omega
theorem ordL_mem (F : Int → Int) : ∀ n x, x ∈ ordL F n → 0 ≤ x ∧ x < n
  | 0, x, h => by simp [ordL] at h
  | n + 1, x, h => by
    rw [ordL, List.mem_append, List.mem_append] at h
    rcases h with (h | h) | h
    · have := ordL_mem F n x (List.mem_of_mem_take h); omega
    · simp at h; omega
    · have := ordL_mem F n x (List.mem_of_mem_drop h); omega
def ptF (pts : List Int) (x : Int) : Int := pts.getD x.toNat 0
theorem Sl.takew {w : World} {B n k : Nat} {A : Option Addr} {zs : List Int} (h : Sl w B 1 A n (zs.map (Value.int .i64))) (hk : k ≤ n) : Sl w B 1 A k ((zs.take k).map (Value.int .i64)) := by
  have hlen := h.ints
  refine ⟨by rw [List.length_map, List.length_take]; omega, fun hp => ?_⟩
  obtain ⟨b, off, e, hb, hcc⟩ := h.2 (by omega)
  refine ⟨b, off, e, hb, fun j u hu => hcc j u ?_⟩
  rw [List.getElem?_map, List.getElem?_take] at hu
  split at hu
  · rw [List.getElem?_map]; exact hu
  · simp at hu
end Go.Proofs.YteeplmnjipddaaaDoor
