/- RatingOrder: what the order says; cells that stay. Plain. No conditions. -/
import Derived.Test.YteeplmnjipddaaaDoorG16
import Derived.Shelf.GgSortMore.Stable
import Derived.Sort.LotA
import Derived.Test.YteeplmnjipddaaaDoorG17
/- PairingsLeft: both functions, and the law. No conditions beyond lengths. -/
namespace Go.Proofs.YteeplmnjipddaaaDoor
set_option linter.unusedSimpArgs false
set_option linter.unusedVariables false
open Go.RowKit Go.WideShapes

/-- The numbers 0, 1, .. -/
def rangeL (n : Nat) : List Int := (List.range n).map fun i : Nat => (i : Int)
theorem rangeL_succ (n : Nat) : rangeL (n + 1) = rangeL n ++ [(n : Int)] := by simp [rangeL, List.range_succ]
theorem rangeL_len (n : Nat) : (rangeL n).length = n := by simp [rangeL]
theorem rangeL_mem {n : Nat} {x : Int} (h : x ∈ rangeL n) : 0 ≤ x ∧ x < n := by
  rw [rangeL, List.mem_map] at h
  obtain ⟨i, hi, rfl⟩ := h
  rw [List.mem_range] at hi
  omega
theorem posL_all {F : Int → Int} {v : Int} {O : List Int} (h : ∀ x, ¬ F x < v) (k : Nat) : posL F v O k = k := by
  cases k with
  | zero => rfl
  | succ k => rw [posL, if_neg (h _)]
theorem ordL_flat {F : Int → Int} (h : ∀ x y, ¬ F x < F y) : ∀ n, ordL F n = rangeL n
  | 0 => rfl
  | n + 1 => by
    have ih := ordL_flat h n
    rw [ordL, posL_all (fun x => h x _), ih, rangeL_succ]
    rw [List.take_of_length_le (by rw [rangeL_len]; exact Nat.le_refl _), List.drop_of_length_le (by rw [rangeL_len]; exact Nat.le_refl _), List.append_nil]
theorem ptF_zero (n : Nat) (x : Int) : ptF (List.replicate n 0) x = 0 := by
  unfold ptF
  rw [List.getD_eq_getElem?_getD, List.getElem?_replicate]
  split <;> rfl
theorem ordL_zero (n : Nat) : ordL (ptF (List.replicate n 0)) n = rangeL n := ordL_flat (fun x y => by rw [ptF_zero, ptF_zero]; decide) n
def plR (n : Int) (zs : List Int) (c : Nat) : Int × Int := if validM n zs then (if n % 2 = 1 then (0, 6) else (waysN (fun a b => metB zs a b c) (n.toNat / 2) (rangeL n.toNat), 0)) else (0, 1)
theorem plR_no {n : Int} {zs : List Int} {c : Nat} (h : validM n zs = false) : plR n zs c = (0, 1) := by rw [plR, h]; rfl
theorem plR_odd {n : Int} {zs : List Int} {c : Nat} (h : validM n zs = true) (h2 : n % 2 = 1) : plR n zs c = (0, 6) := by rw [plR, h, if_pos rfl, if_pos h2]
theorem plR_yes {n : Nat} {zs : List Int} {c : Nat} (h : validM n zs = true) (h2 : ¬ (n : Int) % 2 = 1) : plR n zs c = (waysN (fun a b => metB zs a b c) (n / 2) (rangeL n), 0) := by rw [plR, h, if_pos rfl, if_neg h2, Int.toNat_natCast]
theorem info_i64p : (Tryd.prog.info? 2).map (fun i => (i.zero, i.size, i.bytes)) = some (some (.int .i64 0), 1, 8) := by kernel_rfl
end Go.Proofs.YteeplmnjipddaaaDoor
/- Two sorted parts of a row made one: exchanges, rotations, the cut and the join; blocks that grow. Plain. No conditions. -/
namespace Go.Proofs.YteeplmnjipddaaaDoor
set_option linter.unusedSimpArgs false
set_option linter.unusedVariables false
open Go.RowKit Go.Lib Go.Sort

section
variable {α : Type} [Inhabited α]
theorem at_eq (d : Array α) {i j : Nat} (h : i = j) : d[i]! = d[j]! := by rw [h]
/-- The first n places at a and at b are exchanged. -/
structure Xch (a b n : Nat) (d d' : Array α) : Prop where
  lo : ∀ k, a ≤ k → k < a + n → d'[k]! = d[k + (b - a)]!
  hi : ∀ k, b ≤ k → k < b + n → d'[k]! = d[k - (b - a)]!
  o : ∀ k, (k < a ∨ (a + n ≤ k ∧ k < b) ∨ b + n ≤ k) → d'[k]! = d[k]!
theorem Xch.zero (a b : Nat) (d : Array α) : Xch a b 0 d d := ⟨fun k h1 h2 => by omega, fun k h1 h2 => by omega, fun k _ => rfl⟩
theorem Xch.step {a b n i : Nat} {d d' : Array α} (h : Xch a b i d d') (hi : i < n) (hab : a + n ≤ b) (hb : b + n ≤ d'.size) : Xch a b (i + 1) d (swp d' (a + i) (b + i)) := by
  refine ⟨fun k h1 h2 => ?_, fun k h1 h2 => ?_, fun k hk => ?_⟩
  · by_cases e : k = a + i
    · subst e
      rw [swp_left _ _ _ (by omega) (by omega), h.o _ (by omega)]
      exact at_eq d (by omega)
    · rw [swp_other _ _ _ _ e (by omega)]; exact h.lo k h1 (by omega)
  · by_cases e : k = b + i
    · subst e
      rw [swp_right _ _ _ (by omega), h.o _ (by omega)]
      exact at_eq d (by omega)
    · rw [swp_other _ _ _ _ (by omega) e]; exact h.hi k h1 (by omega)
  · rw [swp_other _ _ _ _ (by omega) (by omega)]; exact h.o k (by omega)
/-- The parts [a, m) and [m, b) are exchanged. -/
structure Rot (a m b : Nat) (d d' : Array α) : Prop where
  lo : ∀ k, a ≤ k → k < a + (b - m) → d'[k]! = d[k + (m - a)]!
  hi : ∀ k, a + (b - m) ≤ k → k < b → d'[k]! = d[k - (b - m)]!
  o : ∀ k, (k < a ∨ b ≤ k) → d'[k]! = d[k]!
theorem Rot.none {a m b : Nat} (d : Array α) (h : a = m ∨ m = b) (h1 : a ≤ m) (h2 : m ≤ b) : Rot a m b d d :=
  ⟨fun k h3 h4 => at_eq d (by omega), fun k h3 h4 => at_eq d (by omega), fun _ _ => rfl⟩
theorem Rot.of_xch {m i : Nat} {d d' : Array α} (h : Xch (m - i) m i d d') (hi : i ≤ m) : Rot (m - i) m (m + i) d d' := by
  refine ⟨fun k h1 h2 => ?_, fun k h1 h2 => ?_, fun k h1 => h.o k (by omega)⟩
  · rw [h.lo k h1 (by omega)]
  · rw [h.hi k (by omega) (by omega)]; exact at_eq d (by omega)
theorem Rot.left {m i j : Nat} {d d1 d' : Array α} (h : Xch (m - i) m j d d1) (hr : Rot (m - (i - j)) m (m + j) d1 d') (hj : j < i) (hi : i ≤ m) : Rot (m - i) m (m + j) d d' := by
  refine ⟨fun k h1 h2 => ?_, fun k h1 h2 => ?_, fun k h1 => ?_⟩
  · rw [hr.o k (by omega), h.lo k h1 (by omega)]
  · by_cases e : k < m - (i - j) + (m + j - m)
    · rw [hr.lo k (by omega) e, h.hi _ (by omega) (by omega)]; exact at_eq d (by omega)
    · rw [hr.hi k (by omega) h2, h.o _ (by omega)]
  · rw [hr.o k (by omega), h.o k (by omega)]
theorem Rot.right {m i j : Nat} {d d1 d' : Array α} (h : Xch (m - i) (m + j - i) i d d1) (hr : Rot (m - i) m (m + (j - i)) d1 d') (hij : i < j) (hi : i ≤ m) : Rot (m - i) m (m + j) d d' := by
  refine ⟨fun k h1 h2 => ?_, fun k h1 h2 => ?_, fun k h1 => ?_⟩
  · by_cases e : k < m - i + (m + (j - i) - m)
    · rw [hr.lo k h1 e, h.o _ (by omega)]
    · rw [hr.hi k (by omega) (by omega), h.lo _ (by omega) (by omega)]; exact at_eq d (by omega)
  · rw [hr.o k (by omega), h.hi k (by omega) (by omega)]; exact at_eq d (by omega)
  · rw [hr.o k (by omega), h.o k (by omega)]

variable {lt : α → α → Bool} {ap : α → α → Prop}
theorem SortedIn.le (hS : SWO lt) {a b i j : Nat} {d : Array α} (h : SortedIn lt a b d) (h1 : a ≤ i) (h2 : i ≤ j) (h3 : j < b) : lt d[j]! d[i]! = false := by
  rcases Nat.lt_or_ge i j with e | e
  · exact h i j h1 e h3
  · obtain rfl : i = j := by omega
    exact hS.irrefl _
/-- Two sorted parts, each of the first apart from each of the second. -/
structure Pre (lt : α → α → Bool) (ap : α → α → Prop) (a m b : Nat) (d : Array α) : Prop where
  l : SortedIn lt a m d
  r : SortedIn lt m b d
  x : ∀ i j, a ≤ i → i < m → m ≤ j → j < b → ap d[i]! d[j]!
theorem Pre.one {a s b : Nat} {d : Array α} (h : Pre lt ap a s b d) (hs : s = a ∨ s = b) : SortedIn lt a b d := by
  rcases hs with rfl | rfl
  · exact h.r
  · exact h.l
theorem Pre.same {a s b : Nat} {d d' : Array α} (h : Pre lt ap a s b d) (he : ∀ k, a ≤ k → k < b → d'[k]! = d[k]!) (h1 : a ≤ s) (h2 : s ≤ b) : Pre lt ap a s b d' := by
  refine ⟨fun i j h3 h4 h5 => ?_, fun i j h3 h4 h5 => ?_, fun i j h3 h4 h5 h6 => ?_⟩
  · rw [he i h3 (by omega), he j (by omega) (by omega)]; exact h.l i j h3 h4 h5
  · rw [he i (by omega) (by omega), he j (by omega) (by omega)]; exact h.r i j h3 h4 h5
  · rw [he i h3 (by omega), he j (by omega) (by omega)]; exact h.x i j h3 h4 h5 h6
theorem cut_c1 (hS : SWO lt) {a s m e b : Nat} {d : Array α} (h : Pre lt ap a m b d) (h2 : s ≤ m) (h3 : m ≤ e) (hc : a < s → e < b → lt d[e]! d[s - 1]! = false) : ∀ i j, a ≤ i → i < s → e ≤ j → j < b → lt d[j]! d[i]! = false := by
  intro i j g1 g2 g3 g4
  have k1 := hc (by omega) (by omega)
  have k2 := SortedIn.le hS h.l g1 (show i ≤ s - 1 by omega) (by omega)
  have k3 := SortedIn.le hS h.r (show m ≤ e by omega) g3 g4
  exact hS.ntrans _ _ _ (hS.ntrans _ _ _ k3 k1) k2
theorem cut_c2 (hS : SWO lt) {a s m e b : Nat} {d : Array α} (h : Pre lt ap a m b d) (h1 : a ≤ s) (h4 : e ≤ b) (hc : s < m → m < e → lt d[e - 1]! d[s]! = true) : ∀ i j, s ≤ i → i < m → m ≤ j → j < e → lt d[i]! d[j]! = false := by
  intro i j g1 g2 g3 g4
  have k1 := hc (by omega) (by omega)
  have k2 := SortedIn.le hS h.l (show a ≤ s by omega) g1 g2
  have k3 := SortedIn.le hS h.r g3 (show j ≤ e - 1 by omega) (by omega)
  have k4 : lt d[s]! d[e - 1]! = false := hS.asymmA k1
  exact hS.ntrans _ _ _ (hS.ntrans _ _ _ k2 k4) k3
theorem Pre.cut {a s m e b mid : Nat} {d d1 : Array α} (h : Pre lt ap a m b d) (hr : Rot s m e d d1) (h1 : a ≤ s) (h2 : s ≤ m) (h3 : m ≤ e) (h4 : e ≤ b) (hm : mid = s + (e - m))
    (c1 : ∀ i j, a ≤ i → i < s → e ≤ j → j < b → lt d[j]! d[i]! = false) (c2 : ∀ i j, s ≤ i → i < m → m ≤ j → j < e → lt d[i]! d[j]! = false) :
    Pre lt ap a s mid d1 ∧ Pre lt ap mid e b d1 ∧ (∀ i j, a ≤ i → i < mid → mid ≤ j → j < b → lt d1[j]! d1[i]! = false) := by
  refine ⟨⟨fun i j g1 g2 g3 => ?_, fun i j g1 g2 g3 => ?_, fun i j g1 g2 g3 g4 => ?_⟩, ⟨fun i j g1 g2 g3 => ?_, fun i j g1 g2 g3 => ?_, fun i j g1 g2 g3 g4 => ?_⟩, fun i j g1 g2 g3 g4 => ?_⟩
  · rw [hr.o i (by omega), hr.o j (by omega)]; exact h.l i j g1 g2 (by omega)
  · rw [hr.lo i (by omega) (by omega), hr.lo j (by omega) (by omega)]; exact h.r _ _ (by omega) (by omega) (by omega)
  · rw [hr.o i (by omega), hr.lo j (by omega) (by omega)]; exact h.x _ _ (by omega) (by omega) (by omega) (by omega)
  · rw [hr.hi i (by omega) (by omega), hr.hi j (by omega) (by omega)]; exact h.l _ _ (by omega) (by omega) (by omega)
  · rw [hr.o i (by omega), hr.o j (by omega)]; exact h.r i j (by omega) g2 g3
  · rw [hr.hi i (by omega) (by omega), hr.o j (by omega)]; exact h.x _ _ (by omega) (by omega) (by omega) (by omega)
  · by_cases p : i < s
    · rw [hr.o i (by omega)]
      by_cases q : j < e
      · rw [hr.hi j (by omega) q]; exact h.l _ _ (by omega) (by omega) (by omega)
      · rw [hr.o j (by omega)]; exact c1 _ _ g1 p (by omega) g4
    · rw [hr.lo i (by omega) (by omega)]
      by_cases q : j < e
      · rw [hr.hi j (by omega) q]; exact c2 _ _ (by omega) (by omega) (by omega) (by omega)
      · rw [hr.o j (by omega)]; exact h.r _ _ (by omega) (by omega) (by omega)
theorem join_sorted {a mid b : Nat} {d1 d2 d3 : Array α} (hx : ∀ i j, a ≤ i → i < mid → mid ≤ j → j < b → lt d1[j]! d1[i]! = false) (p1 : PermIn a mid d1 d2) (s1 : SortedIn lt a mid d2) (p2 : PermIn mid b d2 d3) (s2 : SortedIn lt mid b d3)
    (ham : a ≤ mid) (hmb : mid ≤ b) (hb : b ≤ d1.size) : PermIn a b d1 d3 ∧ SortedIn lt a b d3 := by
  have hs := p1.1
  have x2 : ∀ j, mid ≤ j → j < b → ∀ i, a ≤ i → i < mid → lt d2[j]! d2[i]! = false := fun j g1 g2 => by
    rw [p1.2.1 j (by omega)]
    exact permIn_all d1 d2 a mid (fun x => lt d1[j]! x = false) (by omega) p1 (fun i g3 g4 => hx i j g3 g4 g1 g2)
  have x3 : ∀ i, a ≤ i → i < mid → ∀ j, mid ≤ j → j < b → lt d3[j]! d3[i]! = false := fun i g1 g2 => by
    rw [p2.2.1 i (by omega)]
    exact permIn_all d2 d3 mid b (fun y => lt y d2[i]! = false) (by omega) p2 (fun j g3 g4 => x2 j g3 g4 i g1 g2)
  refine ⟨permIn_trans _ _ _ _ _ (permIn_mono _ _ a mid a b (Nat.le_refl _) hmb hb p1) (permIn_mono _ _ mid b a b ham (Nat.le_refl _) (by omega) p2), fun i j g1 g2 g3 => ?_⟩
  by_cases q : j < mid
  · rw [p2.2.1 i (by omega), p2.2.1 j (by omega)]; exact s1 i j g1 g2 q
  · by_cases p : i < mid
    · exact x3 i g1 p j (by omega) g3
    · exact s2 i j (by omega) g2 g3
theorem one_left (hS : SWO lt) {a i b : Nat} {d d' : Array α} (h : Pre lt ap a (a + 1) b d) (hi : a + 1 ≤ i) (hib : i ≤ b) (c1 : a + 1 < i → lt d[i - 1]! d[a]! = true) (c2 : i < b → lt d[i]! d[a]! = false)
    (e1 : ∀ k, a ≤ k → k < i - 1 → d'[k]! = d[k + 1]!) (e2 : d'[i - 1]! = d[a]!) (e3 : ∀ k, i ≤ k → d'[k]! = d[k]!) : SortedIn lt a b d' := by
  intro x y g1 g2 g3
  by_cases p : y < i - 1
  · rw [e1 x g1 (by omega), e1 y (by omega) p]; exact h.r _ _ (by omega) (by omega) (by omega)
  · by_cases p2 : y = i - 1
    · subst p2
      rw [e2, e1 x g1 g2]
      have k1 := c1 (by omega)
      have k2 := SortedIn.le hS h.r (show a + 1 ≤ x + 1 by omega) (show x + 1 ≤ i - 1 by omega) (by omega)
      exact hS.ntrans _ _ _ (hS.asymmA k1) k2
    · rw [e3 y (by omega)]
      by_cases q : x < i - 1
      · rw [e1 x g1 q]; exact h.r _ _ (by omega) (by omega) (by omega)
      · by_cases q2 : x = i - 1
        · subst q2
          rw [e2]
          have k1 := c2 (by omega)
          have k2 := SortedIn.le hS h.r (show a + 1 ≤ i by omega) (show i ≤ y by omega) g3
          exact hS.ntrans _ _ _ k2 k1
        · rw [e3 x (by omega)]; exact h.r _ _ (by omega) g2 g3
theorem one_right (hS : SWO lt) {a i m : Nat} {d d' : Array α} (h : Pre lt ap a m (m + 1) d) (hai : a ≤ i) (him : i ≤ m) (c1 : a < i → lt d[m]! d[i - 1]! = false) (c2 : i < m → lt d[m]! d[i]! = true)
    (e1 : ∀ k, i < k → k ≤ m → d'[k]! = d[k - 1]!) (e2 : d'[i]! = d[m]!) (e3 : ∀ k, k < i → d'[k]! = d[k]!) : SortedIn lt a (m + 1) d' := by
  intro x y g1 g2 g3
  by_cases p : y < i
  · rw [e3 x (by omega), e3 y p]; exact h.l _ _ g1 g2 (by omega)
  · by_cases p2 : y = i
    · subst p2
      rw [e2, e3 x g2]
      have k1 := c1 (by omega)
      have k2 := SortedIn.le hS h.l g1 (show x ≤ y - 1 by omega) (by omega)
      exact hS.ntrans _ _ _ k1 k2
    · rw [e1 y (by omega) (by omega)]
      by_cases q : x < i
      · rw [e3 x q]; exact SortedIn.le hS h.l g1 (by omega) (by omega)
      · by_cases q2 : x = i
        · subst q2
          rw [e2]
          have k1 := c2 (by omega)
          have k2 := SortedIn.le hS h.l hai (show x ≤ y - 1 by omega) (by omega)
          exact hS.ntrans _ _ _ k2 (hS.asymmA k1)
        · rw [e1 x (by omega) (by omega)]; exact SortedIn.le hS h.l (by omega) (by omega) (by omega)

/-- Places with one number by β are sorted among themselves; the others are apart. -/
structure Blocks (lt : α → α → Bool) (ap : α → α → Prop) (β : Nat → Nat) (n : Nat) (d : Array α) : Prop where
  s : ∀ i j, i < j → j < n → β i = β j → lt d[j]! d[i]! = false
  x : ∀ i j, i < j → j < n → β i ≠ β j → ap d[i]! d[j]!
theorem Blocks.pre {β : Nat → Nat} {n a m b : Nat} {d : Array α} (h : Blocks lt ap β n d) (hb : b ≤ n) (h1 : ∀ i j, a ≤ i → i < j → j < m → β i = β j) (h2 : ∀ i j, m ≤ i → i < j → j < b → β i = β j) (h3 : ∀ i j, a ≤ i → i < m → m ≤ j → j < b → β i ≠ β j) (hm : m ≤ b) : Pre lt ap a m b d :=
  ⟨fun i j g1 g2 g3 => h.s i j g2 (by omega) (h1 i j g1 g2 g3), fun i j g1 g2 g3 => h.s i j g2 (by omega) (h2 i j g1 g2 g3), fun i j g1 g2 g3 g4 => h.x i j (by omega) (by omega) (h3 i j g1 g2 g3 g4)⟩
theorem Blocks.merge {β β' : Nat → Nat} {n a b : Nat} {d d' : Array α} (h : Blocks lt ap β n d) (p : PermIn a b d d') (s : SortedIn lt a b d') (hb : b ≤ n) (hn : n ≤ d.size)
    (h1 : ∀ i j, i < j → j < n → β' i = β' j → (a ≤ i ∧ j < b) ∨ ((i < a ∨ b ≤ i) ∧ (j < a ∨ b ≤ j) ∧ β i = β j))
    (h2 : ∀ i j, i < j → j < n → β' i ≠ β' j → ¬ (a ≤ i ∧ j < b) ∧ β i ≠ β j ∧ (a ≤ i → i < b → ∀ k, a ≤ k → k < b → β k ≠ β j) ∧ (a ≤ j → j < b → ∀ k, a ≤ k → k < b → β i ≠ β k)) : Blocks lt ap β' n d' := by
  refine ⟨fun i j g1 g2 g3 => ?_, fun i j g1 g2 g3 => ?_⟩
  · rcases h1 i j g1 g2 g3 with ⟨q1, q2⟩ | ⟨q1, q2, q3⟩
    · exact s i j q1 g1 q2
    · rw [p.2.1 i q1, p.2.1 j q2]; exact h.s i j g1 g2 q3
  · obtain ⟨q0, q1, q2, q3⟩ := h2 i j g1 g2 g3
    by_cases p1 : a ≤ i ∧ i < b
    · have hj : b ≤ j := by omega
      rw [p.2.1 j (Or.inr hj)]
      exact permIn_all d d' a b (fun x => ap x d[j]!) (by omega) p (fun k g4 g5 => h.x k j (by omega) g2 (q2 p1.1 p1.2 k g4 g5)) i p1.1 p1.2
    · rw [p.2.1 i (by omega)]
      by_cases p2 : a ≤ j ∧ j < b
      · exact permIn_all d d' a b (fun x => ap d[i]! x) (by omega) p (fun k g4 g5 => h.x i k (by omega) (by omega) (q3 p2.1 p2.2 k g4 g5)) j p2.1 p2.2
      · rw [p.2.1 j (by omega)]; exact h.x i j g1 g2 q1
/-- Blocks of 20 are sorted up to a. -/
def bI (n a i : Nat) : Nat := if i < a then i / 20 else i + n
/-- Blocks of s are sorted, those of 2 s up to a. -/
def bM (s a i : Nat) : Nat := if i < a then 2 * (i / (2 * s)) else i / s
theorem blocks_start {n : Nat} {d : Array α} (h : ∀ i j, i < j → j < n → ap d[i]! d[j]!) : Blocks lt ap (bI n 0) n d :=
  ⟨fun i j g1 g2 g3 => by simp only [bI, Nat.not_lt_zero, if_false] at g3; omega, fun i j g1 g2 _ => h i j g1 g2⟩
theorem blocks_ins {n a b : Nat} {d d' : Array α} (h : Blocks lt ap (bI n a) n d) (p : PermIn a b d d') (s : SortedIn lt a b d') (hb : b ≤ n) (hn : n ≤ d.size) (ha : a % 20 = 0) (hab : a ≤ b) (hab2 : b ≤ a + 20) : Blocks lt ap (bI n b) n d' := by
  refine h.merge p s hb hn (fun i j g1 g2 g3 => ?_) (fun i j g1 g2 g3 => ?_)
  · unfold bI at g3 ⊢; split at g3 <;> split at g3 <;> (repeat' split) <;> omega
  · refine ⟨?_, ?_, fun g4 g5 k g6 g7 => ?_, fun g4 g5 k g6 g7 => ?_⟩ <;> unfold bI at g3 <;> (try unfold bI) <;> (repeat' split at g3) <;> (repeat' split) <;> omega
theorem blocks_apart {n a : Nat} {d : Array α} (h : Blocks lt ap (bI n a) n d) : ∀ i j, a ≤ i → i < j → j < n → ap d[i]! d[j]! := fun i j g1 g2 g3 => h.x i j g2 g3 (by unfold bI; (repeat' split) <;> omega)
theorem blocks_first {n : Nat} {d : Array α} (h : Blocks lt ap (bI n n) n d) : Blocks lt ap (bM 20 0) n d :=
  ⟨fun i j g1 g2 g3 => h.s i j g1 g2 (by unfold bM at g3; unfold bI; (repeat' split) <;> simp at g3 <;> omega), fun i j g1 g2 g3 => h.x i j g1 g2 (by unfold bM at g3; unfold bI; (repeat' split) <;> simp at g3 <;> omega)⟩
theorem blocks_pre {n a b s : Nat} {d : Array α} (hs : s = 20 ∨ s = 40 ∨ s = 80) (h : Blocks lt ap (bM s a) n d) (ha : a % (2 * s) = 0) (hm : a + s < b) (hb : b ≤ a + 2 * s) (hbn : b ≤ n) : Pre lt ap a (a + s) b d := by
  rcases hs with rfl | rfl | rfl
  all_goals refine h.pre hbn (fun i j g1 g2 g3 => ?_) (fun i j g1 g2 g3 => ?_) (fun i j g1 g2 g3 g4 => ?_) (by omega) <;> unfold bM <;> (repeat' split) <;> omega
theorem blocks_merge {n a b s : Nat} {d d' : Array α} (hs : s = 20 ∨ s = 40 ∨ s = 80) (h : Blocks lt ap (bM s a) n d) (p : PermIn a b d d') (so : SortedIn lt a b d') (ha : a % (2 * s) = 0) (hm : a + s < b) (hb : b = a + 2 * s ∨ (b = n ∧ b ≤ a + 2 * s)) (hbn : b ≤ n) (hn : n ≤ d.size) : Blocks lt ap (bM s (a + 2 * s)) n d' := by
  rcases hs with rfl | rfl | rfl
  all_goals
    refine h.merge p so hbn hn (fun i j g1 g2 g3 => ?_) (fun i j g1 g2 g3 => ?_)
    · unfold bM at g3 ⊢; split at g3 <;> split at g3 <;> (repeat' split) <;> omega
    · refine ⟨?_, ?_, fun g4 g5 k g6 g7 => ?_, fun g4 g5 k g6 g7 => ?_⟩ <;> unfold bM at g3 <;> (try unfold bM) <;> (repeat' split at g3) <;> (repeat' split) <;> omega
theorem blocks_next {n a s : Nat} {d : Array α} (hs : s = 20 ∨ s = 40 ∨ s = 80) (h : Blocks lt ap (bM s a) n d) (ha : a % (2 * s) = 0) (hn : n ≤ a + s) : Blocks lt ap (bM (2 * s) 0) n d := by
  rcases hs with rfl | rfl | rfl
  all_goals exact ⟨fun i j g1 g2 g3 => h.s i j g1 g2 (by unfold bM at g3 ⊢; simp at g3; (repeat' split) <;> omega), fun i j g1 g2 g3 => h.x i j g1 g2 (by unfold bM at g3 ⊢; simp at g3; (repeat' split) <;> omega)⟩
theorem blocks_end {n s : Nat} {d : Array α} (hs : s = 20 ∨ s = 40 ∨ s = 80 ∨ s = 160) (h : Blocks lt ap (bM s 0) n d) (hn : n ≤ s) : SortedIn lt 0 n d := by
  intro i j _ g1 g2
  refine h.s i j g1 g2 ?_
  rcases hs with rfl | rfl | rfl | rfl
  all_goals unfold bM; simp; omega

theorem insInner_perm (a b : Nat) : ∀ (j : Nat) (d : Array α), j < b → b ≤ d.size → PermIn a b d (insInner lt a j d)
  | 0, d, _, _ => permIn_refl _ _ _
  | j + 1, d, hj, hb => by
    unfold insInner
    split
    · rename_i hc
      simp only [Bool.and_eq_true, decide_eq_true_eq] at hc
      exact permIn_trans _ _ _ a b (swp_permIn d a b (j + 1) j (by omega) (by omega) (by omega) (by omega) hb) (insInner_perm a b j _ (by omega) (by rw [size_swp]; exact hb))
    · exact permIn_refl _ _ _
/-- The insertion sort of elements that stand apart: by either order. -/
theorem insInner_two {lt2 : α → α → Bool} (ha : ∀ x y, ap x y → lt y x = lt2 y x) (a : Nat) : ∀ (j : Nat) (d : Array α), j < d.size → (∀ k, a ≤ k → k < j → ap d[k]! d[j]!) → insInner lt a j d = insInner lt2 a j d
  | 0, d, _, _ => rfl
  | j + 1, d, hj, h => by
    unfold insInner
    by_cases haj : j + 1 > a
    · have e := ha _ _ (h j (by omega) (by omega))
      rw [e]
      cases q : lt2 d[j + 1]! d[j]!
      · simp
      · rw [decide_eq_true haj, Bool.and_self, if_pos rfl, if_pos rfl]
        refine insInner_two ha a j _ (by rw [size_swp]; omega) (fun k h1 h2 => ?_)
        rw [swp_other _ _ _ _ (by omega) (by omega), swp_right _ _ _ (by omega)]
        exact h k h1 (by omega)
    · rw [decide_eq_false haj, Bool.false_and, Bool.false_and, if_neg (by decide), if_neg (by decide)]
theorem insOuter_two {lt2 : α → α → Bool} (ha : ∀ x y, ap x y → lt y x = lt2 y x) (a b : Nat) : ∀ (m i : Nat) (d : Array α), b - i = m → a < i → b ≤ d.size → (∀ x y, a ≤ x → x < y → i ≤ y → y < b → ap d[x]! d[y]!) → insOuter lt a b i d = insOuter lt2 a b i d
  | 0, i, d, hm, _, _, _ => by
    have e : ∀ l : α → α → Bool, insOuter l a b i d = d := fun l => by rw [insOuter, if_neg (by omega)]
    rw [e lt, e lt2]
  | m + 1, i, d, hm, hai, hb, h => by
    have hlt : i < b := by omega
    have e : ∀ l : α → α → Bool, insOuter l a b i d = insOuter l a b (i + 1) (insInner l a i d) := fun l => by rw [insOuter, if_pos hlt]
    rw [e lt, e lt2, insInner_two ha a i d (by omega) (fun k h1 h2 => h k i h1 h2 (Nat.le_refl _) hlt)]
    have p := insInner_perm (lt := lt2) a (i + 1) i d (by omega) (by omega)
    refine insOuter_two ha a b m (i + 1) _ (by omega) (by omega) (by rw [p.1]; exact hb) (fun x y h1 h2 h3 h4 => ?_)
    rw [p.2.1 y (by omega)]
    by_cases q : x < i + 1
    · exact permIn_all d _ a (i + 1) (fun z => ap z d[y]!) (by omega) p (fun k g1 g2 => h k y g1 (by omega) (by omega) h4) x h1 q
    · rw [p.2.1 x (by omega)]; exact h x y h1 h2 (by omega) h4
theorem ins_apart {lt2 : α → α → Bool} (ha : ∀ x y, ap x y → lt y x = lt2 y x) (hS : SWO lt2) {a b : Nat} {d : Array α} (hab : a ≤ b) (hb : b ≤ d.size) (h : ∀ x y, a ≤ x → x < y → y < b → ap d[x]! d[y]!) : PermIn a b d (insertionSort lt d a b) ∧ SortedIn lt2 a b (insertionSort lt d a b) := by
  have e : insertionSort lt d a b = insertionSort lt2 d a b := insOuter_two ha a b (b - (a + 1)) (a + 1) d rfl (by omega) hb (fun x y h1 h2 _ h4 => h x y h1 h2 h4)
  rw [e]
  exact insertionSort_holds hS d a b hab hb
end
end Go.Proofs.YteeplmnjipddaaaDoor
/- The order by falling numbers, then by place: one list alone is sorted so. Plain. No conditions. -/
namespace Go.Proofs.YteeplmnjipddaaaDoor
set_option linter.unusedSimpArgs false
set_option linter.unusedVariables false
open Go.RowKit Go.Lib Go.Sort

/-- What the program's sort asks: a greater number first. -/
def ltF (F : Int → Int) (x y : Int) : Bool := decide (F y < F x)
/-- The whole order: equal numbers by place. -/
def ltG (F : Int → Int) (x y : Int) : Bool := decide (F y < F x ∨ (F x = F y ∧ x < y))
theorem ltG_f {F : Int → Int} {x y : Int} (h : ltG F x y = false) : ¬ (F y < F x ∨ (F x = F y ∧ x < y)) := of_decide_eq_false h
theorem ltG_swo (F : Int → Int) : SWO (ltG F) := by
  refine ⟨fun x => decide_eq_false (by omega), fun x y z h1 h2 => decide_eq_true ?_, fun x y z h1 h2 => decide_eq_false ?_⟩
  · have a := of_decide_eq_true h1
    have b := of_decide_eq_true h2
    omega
  · have a := ltG_f h1
    have b := ltG_f h2
    omega
theorem ltG_tot (F : Int → Int) (x y : Int) (h1 : ltG F x y = false) (h2 : ltG F y x = false) : x = y := by
  have a := ltG_f h1
  have b := ltG_f h2
  omega
theorem ltF_ap (F : Int → Int) (x y : Int) (h : x < y) : ltF F y x = ltG F y x := by
  unfold ltF ltG
  congr 1
  rw [eq_iff_iff]
  omega
theorem posL_spec {F : Int → Int} {v : Int} {O : List Int} : ∀ k, k ≤ O.length → (∀ j, posL F v O k ≤ j → j < k → F (O.getD j 0) < v) ∧ (0 < posL F v O k → ¬ F (O.getD (posL F v O k - 1) 0) < v)
  | 0, _ => ⟨fun j _ h => by omega, fun h => by rw [posL] at h; omega⟩
  | k + 1, hk => by
    rw [posL]
    split
    · rename_i hc
      obtain ⟨a, b⟩ := posL_spec (F := F) (v := v) (O := O) k (by omega)
      refine ⟨fun j h1 h2 => ?_, b⟩
      by_cases e : j < k
      · exact a j h1 e
      · obtain rfl : j = k := by omega
        exact hc
    · rename_i hc
      exact ⟨fun j h1 h2 => by omega, fun _ => hc⟩
theorem pw_get {R : Int → Int → Prop} {l : List Int} (h : l.Pairwise R) {i j : Nat} (hij : i < j) (hj : j < l.length) : R (l.getD i 0) (l.getD j 0) := by
  rw [List.pairwise_iff_getElem] at h
  have := h i j (by omega) hj hij
  rw [List.getD_eq_getElem?_getD, List.getD_eq_getElem?_getD, List.getElem?_eq_getElem hj, List.getElem?_eq_getElem (show i < l.length by omega)]
  exact this
theorem ordL_pw (F : Int → Int) : ∀ n, (ordL F n).Pairwise (fun x y => ltG F y x = false)
  | 0 => List.Pairwise.nil
  | n + 1 => by
    have ih := ordL_pw F n
    have hl := ordL_len F n
    have hp := posL_le F (F n) (ordL F n) n
    obtain ⟨a, b⟩ := posL_spec (F := F) (v := F n) (O := ordL F n) n (by omega)
    rw [ordL]
    generalize posL F (F n) (ordL F n) n = p at a b hp
    have hm := ordL_mem F n
    have H1 : ∀ x ∈ (ordL F n).take p, ltG F n x = false := fun x hx => by
      obtain ⟨i, hi, e⟩ := List.getElem_of_mem hx
      rw [List.getElem_take] at e
      rw [List.length_take] at hi
      have hx2 := hm x (List.mem_of_mem_take hx)
      have e2 : (ordL F n).getD i 0 = x := by rw [List.getD_eq_getElem?_getD, List.getElem?_eq_getElem (by omega), e]; rfl
      have hb := b (by omega)
      apply decide_eq_false
      by_cases q : i = p - 1
      · rw [← q, e2] at hb; omega
      · have := pw_get ih (show i < p - 1 by omega) (by omega)
        rw [e2] at this
        have := ltG_f this
        omega
    have H2 : ∀ y ∈ (ordL F n).drop p, ltG F y n = false := fun y hy => by
      obtain ⟨i, hi, e⟩ := List.getElem_of_mem hy
      rw [List.getElem_drop] at e
      rw [List.length_drop] at hi
      have e2 : (ordL F n).getD (p + i) 0 = y := by rw [List.getD_eq_getElem?_getD, List.getElem?_eq_getElem (by omega), e]; rfl
      have := a (p + i) (by omega) (by omega)
      rw [e2] at this
      exact decide_eq_false (by omega)
    rw [List.append_assoc, List.pairwise_append]
    refine ⟨ih.sublist (List.take_sublist _ _), ?_, ?_⟩
    · rw [List.singleton_append, List.pairwise_cons]
      exact ⟨H2, ih.sublist (List.drop_sublist _ _)⟩
    · intro x hx y hy
      rcases List.mem_cons.1 hy with rfl | h
      · exact H1 x hx
      · have hs : ((ordL F n).take p ++ (ordL F n).drop p).Pairwise (fun x y => ltG F y x = false) := by rw [List.take_append_drop]; exact ih
        rw [List.pairwise_append] at hs
        exact hs.2.2 x hx y h
theorem ordL_perm (F : Int → Int) : ∀ n, (ordL F n).Perm (rangeL n)
  | 0 => List.Perm.refl _
  | n + 1 => by
    have ih := ordL_perm F n
    rw [ordL, rangeL_succ, List.append_assoc, List.singleton_append]
    generalize posL F (F n) (ordL F n) n = p
    have h1 := List.perm_middle (a := (n : Int)) (l₁ := (ordL F n).take p) (l₂ := (ordL F n).drop p)
    rw [List.take_append_drop] at h1
    have h2 := List.perm_append_comm (l₁ := [(n : Int)]) (l₂ := rangeL n)
    exact h1.trans ((ih.cons _).trans (by simpa using h2))
theorem arr_at (l : List Int) (i : Nat) : (l.toArray)[i]! = l.getD i 0 := by
  rw [List.getD_eq_getElem?_getD]
  by_cases h : i < l.length
  · rw [getElem!_pos _ i (by simpa using h), List.getElem?_eq_getElem h]; simp
  · rw [getElem!_neg _ i (by simpa using h), List.getElem?_eq_none (by omega)]; rfl
theorem permIn_list {l l' : List Int} {n : Nat} (hl : l.length = n) (h : l'.Perm l) : PermIn 0 n l.toArray l'.toArray := by
  have hl' : l'.length = n := by rw [h.length_eq]; exact hl
  refine ⟨by simp [hl, hl'], fun i hi => ?_, ?_⟩
  · rw [arr_at, arr_at, List.getD_eq_getElem?_getD, List.getD_eq_getElem?_getD, List.getElem?_eq_none (by omega), List.getElem?_eq_none (by omega)]
  · have e : ∀ (x : List Int), x.length = n → (x.toArray.extract 0 n).toList = x := fun x hx => by
      rw [Array.toList_extract]; simp [← hx, List.extract]
    rw [e _ hl', e _ hl]
    exact h
/-- The places sorted by the whole order are the list of the reference. -/
theorem sorted_ord {F : Int → Int} {n : Nat} {d' : Array Int} (hp : PermIn 0 n (rangeL n).toArray d') (hs : SortedIn (ltG F) 0 n d') : d' = (ordL F n).toArray := by
  have hn : (rangeL n).toArray.size = n := by simp [rangeL_len]
  have hp1 : PermIn 0 (rangeL n).toArray.size (rangeL n).toArray d' := by rw [hn]; exact hp
  have hs1 : SortedIn (ltG F) 0 (rangeL n).toArray.size d' := by rw [hn]; exact hs
  have hp2 : PermIn 0 (rangeL n).toArray.size (rangeL n).toArray (ordL F n).toArray := by rw [hn]; exact permIn_list (rangeL_len n) (ordL_perm F n)
  have hs2 : SortedIn (ltG F) 0 (rangeL n).toArray.size (ordL F n).toArray := by
    rw [hn]
    intro i j _ h1 h2
    rw [arr_at, arr_at]
    exact pw_get (ordL_pw F n) h1 (by rw [ordL_len]; exact h2)
  have e1 := sorted_unique_holds (ltG_swo F) (ltG_tot F) _ _ hp1 hs1
  have e2 := sorted_unique_holds (ltG_swo F) (ltG_tot F) _ _ hp2 hs2
  apply Array.ext'
  rw [e1, e2]
theorem rangeL_apart (n : Nat) : ∀ i j, i < j → j < n → (rangeL n).toArray[i]! < (rangeL n).toArray[j]! := by
  intro i j h1 h2
  have e : ∀ k, k < n → (rangeL n).getD k 0 = (k : Int) := fun k hk => by
    rw [List.getD_eq_getElem?_getD, rangeL, List.getElem?_map, List.getElem?_range hk]; rfl
  rw [arr_at, arr_at, e i (by omega), e j h2]
  omega
/-- The insertion sort of the places. -/
theorem ins_ord (F : Int → Int) (n : Nat) : insertionSort (ltF F) (rangeL n).toArray 0 n = (ordL F n).toArray := by
  obtain ⟨p, s⟩ := ins_apart (lt := ltF F) (lt2 := ltG F) (ap := fun x y => x < y) (fun x y h => ltF_ap F x y h) (ltG_swo F) (a := 0) (b := n) (d := (rangeL n).toArray) (Nat.zero_le _) (by simp [rangeL_len]) (fun x y _ h1 h2 => rangeL_apart n x y h1 h2)
  exact sorted_ord p s
end Go.Proofs.YteeplmnjipddaaaDoor
/- RatingOrder: what the order says; cells that stay. Plain. No conditions. -/
namespace Go.Proofs.YteeplmnjipddaaaDoor
set_option linter.unusedSimpArgs false
set_option linter.unusedVariables false
open Go.RowKit

theorem rangeL_nodupQ (n : Nat) : (rangeL n).Pairwise (fun x y : Int => x ≠ y) := by
  unfold rangeL
  rw [List.pairwise_map]
  refine List.Pairwise.imp ?_ (List.nodup_range (n := n))
  intro a b h e
  exact h (by omega)
theorem ro_facts {L l : List Int} {n q : Nat} {code : Int} (h : roR L n = (l, q, code)) {i p : Nat} (hp : p + 1 = i) (h2 : i < q) :
    ∃ X Y : Nat, l.getD p 0 = X ∧ l.getD i 0 = Y ∧ X < n ∧ Y < n ∧ L.getD (Y * 2) 0 ≤ L.getD (X * 2) 0 ∧ (L.getD (X * 2) 0 = L.getD (Y * 2) 0 → X < Y) := by
  by_cases h0 : rpE L [] n 0 = 0
  · have e := h.symm.trans (roR_0 h0)
    injection e with e1 e2
    injection e2 with e2 _
    subst e1 e2
    have hl := ordL_len (rtF L) q
    have m1 := ordL_mem (rtF L) q _ (getD_mem (zs := ordL (rtF L) q) (k := p) 0 (by omega))
    have m2 := ordL_mem (rtF L) q _ (getD_mem (zs := ordL (rtF L) q) (k := i) 0 (by omega))
    have hw := ltG_f (pw_get (ordL_pw (rtF L) q) (show p < i by omega) (by omega))
    have hne : (ordL (rtF L) q).getD p 0 ≠ (ordL (rtF L) q).getD i 0 := by
      have hnd : (ordL (rtF L) q).Pairwise (fun x y : Int => x ≠ y) := (ordL_perm (rtF L) q).nodup_iff.mpr (rangeL_nodupQ q)
      exact pw_get hnd (show p < i by omega) (by omega)
    revert m1 m2 hw hne
    generalize (ordL (rtF L) q).getD p 0 = x
    generalize (ordL (rtF L) q).getD i 0 = y
    rintro ⟨x0, x1⟩ ⟨y0, y1⟩ hw hne
    obtain ⟨X, rfl⟩ := Int.eq_ofNat_of_zero_le x0
    obtain ⟨Y, rfl⟩ := Int.eq_ofNat_of_zero_le y0
    have e1 : rtF L (X : Int) = L.getD (X * 2) 0 := by rw [rtF, Int.toNat_natCast]
    have e2 : rtF L (Y : Int) = L.getD (Y * 2) 0 := by rw [rtF, Int.toNat_natCast]
    rw [e1, e2] at hw
    exact ⟨X, Y, rfl, rfl, by omega, by omega, by omega, fun e => by omega⟩
  · have e := h.symm.trans (roR_ne rfl h0)
    injection e with e1 e2
    injection e2 with e2 _
    omega
theorem roR_mem {L l : List Int} {n q : Nat} {code : Int} (h : roR L n = (l, q, code)) : q ≤ n := by
  unfold roR at h
  split at h <;> (injection h with h1 h2; injection h2 with h2 h3; omega)
section
variable {w W W' : World} {pb rb xb yb : Nat} {a b c d e f g h : Value}
theorem bx_keep (H : (((W.cell? ⟨pb, 0, none⟩ = some a ∧ W.cell? ⟨pb, 1, none⟩ = some b) ∧ (W.cell? ⟨rb, 0, none⟩ = some c ∧ W.cell? ⟨rb, 1, none⟩ = some d)) ∧ ((W.cell? ⟨xb, 0, none⟩ = some e ∧ W.cell? ⟨xb, 1, none⟩ = some f) ∧ (W.cell? ⟨yb, 0, none⟩ = some g ∧ W.cell? ⟨yb, 1, none⟩ = some h))) ∧ Below w.heap.size w W) (hb : Below W.heap.size W W') :
    (((W'.cell? ⟨pb, 0, none⟩ = some a ∧ W'.cell? ⟨pb, 1, none⟩ = some b) ∧ (W'.cell? ⟨rb, 0, none⟩ = some c ∧ W'.cell? ⟨rb, 1, none⟩ = some d)) ∧ ((W'.cell? ⟨xb, 0, none⟩ = some e ∧ W'.cell? ⟨xb, 1, none⟩ = some f) ∧ (W'.cell? ⟨yb, 0, none⟩ = some g ∧ W'.cell? ⟨yb, 1, none⟩ = some h))) ∧ Below w.heap.size w W' := by
  obtain ⟨⟨⟨⟨a0, a1⟩, b0, b1⟩, ⟨c0, c1⟩, d0, d1⟩, hB⟩ := H
  have k : ∀ {x o : Nat} {u : Value}, W.cell? ⟨x, o, none⟩ = some u → W'.cell? ⟨x, o, none⟩ = some u := fun {x o u} q => (hb.cell (p := ⟨x, o, none⟩) (cell_lt q)).trans q
  exact ⟨⟨⟨⟨k a0, k a1⟩, k b0, k b1⟩, ⟨k c0, k c1⟩, k d0, k d1⟩, hB.trans (hb.mono hB.size)⟩
theorem bx_drew (H : (((W.cell? ⟨pb, 0, none⟩ = some a ∧ W.cell? ⟨pb, 1, none⟩ = some b) ∧ (W.cell? ⟨rb, 0, none⟩ = some c ∧ W.cell? ⟨rb, 1, none⟩ = some d)) ∧ ((W.cell? ⟨xb, 0, none⟩ = some e ∧ W.cell? ⟨xb, 1, none⟩ = some f) ∧ (W.cell? ⟨yb, 0, none⟩ = some g ∧ W.cell? ⟨yb, 1, none⟩ = some h))) ∧ Below w.heap.size w W) :
    (((W.drew.cell? ⟨pb, 0, none⟩ = some a ∧ W.drew.cell? ⟨pb, 1, none⟩ = some b) ∧ (W.drew.cell? ⟨rb, 0, none⟩ = some c ∧ W.drew.cell? ⟨rb, 1, none⟩ = some d)) ∧ ((W.drew.cell? ⟨xb, 0, none⟩ = some e ∧ W.drew.cell? ⟨xb, 1, none⟩ = some f) ∧ (W.drew.cell? ⟨yb, 0, none⟩ = some g ∧ W.drew.cell? ⟨yb, 1, none⟩ = some h))) ∧ Below w.heap.size w W.drew := ⟨H.1, belowDrewN H.2 1⟩
end
end Go.Proofs.YteeplmnjipddaaaDoor
