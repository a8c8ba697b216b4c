/- Standings: the rows of all players, by the reference. Conditions: valid matches. -/
import Derived.Test.YtlogcbiebpfmlaaStand2
import Derived.StillTailTactics
namespace Go.Proofs.Ytlogcbiebpfmlaa
set_option linter.unusedSimpArgs false
set_option linter.unusedVariables false
open Go.RowKit

/-- The rows, and what a block holds behind them. -/
def flatR (n : Nat) (F : Nat → Nat → Int) (rest : List Value) : Array Value := (flatF n F ++ rest).toArray
theorem flatR_at {n d c : Nat} (F : Nat → Nat → Int) (rest : List Value) (hd : d < n) (hc : c < 6) : (flatR n F rest)[d * 6 + c]? = some (.int .i64 (F d c)) := by
  have h := flatF_at F hd hc
  simp only [List.getElem?_toArray] at h
  simp only [flatR, List.getElem?_toArray]
  rw [List.getElem?_append_left (by rw [flatF_len]; omega), h]
theorem flatR_set {n d c : Nat} (F : Nat → Nat → Int) (rest : List Value) (hd : d < n) (hc : c < 6) (v : Int) : (flatR n F rest).setIfInBounds (d * 6 + c) (.int .i64 v) = flatR n (upF F d c v) rest := by
  have h := flatF_set F hd hc v
  simp only [List.setIfInBounds_toArray] at h
  simp only [flatR, List.setIfInBounds_toArray]
  rw [List.set_append_left _ _ (by rw [flatF_len]; omega)]
  congr 2
  exact List.toArray_inj h
theorem flatF_snoc (n : Nat) (F : Nat → Nat → Int) : flatF (n + 1) F = flatF n F ++ [.int .i64 (F n 0), .int .i64 (F n 1), .int .i64 (F n 2), .int .i64 (F n 3), .int .i64 (F n 4), .int .i64 (F n 5)] := by
  apply List.ext_getElem?
  intro j
  by_cases hj : j < n * 6
  · rw [List.getElem?_append_left (by rw [flatF_len]; exact hj)]
    simp only [flatF, List.getElem?_map, List.getElem?_range hj, List.getElem?_range (show j < (n + 1) * 6 by omega)]
  · rw [List.getElem?_append_right (by rw [flatF_len]; omega), flatF_len]
    by_cases hj2 : j < n * 6 + 6
    · simp only [flatF, List.getElem?_map, List.getElem?_range (show j < (n + 1) * 6 by omega), Option.map_some]
      have : j = n * 6 ∨ j = n * 6 + 1 ∨ j = n * 6 + 2 ∨ j = n * 6 + 3 ∨ j = n * 6 + 4 ∨ j = n * 6 + 5 := by omega
      have e : ∀ c, c < 6 → (n * 6 + c) / 6 = n ∧ (n * 6 + c) % 6 = c := fun c hc => by omega
      rcases this with rfl | rfl | rfl | rfl | rfl | rfl
      · have := e 0 (by omega); simp only [Nat.add_zero] at this; rw [this.1, this.2]; simp
      · rw [(e 1 (by omega)).1, (e 1 (by omega)).2]; simp
      · rw [(e 2 (by omega)).1, (e 2 (by omega)).2]; simp
      · rw [(e 3 (by omega)).1, (e 3 (by omega)).2]; simp
      · rw [(e 4 (by omega)).1, (e 4 (by omega)).2]; simp
      · rw [(e 5 (by omega)).1, (e 5 (by omega)).2]; simp
    · rw [List.getElem?_eq_none (by rw [flatF_len]; omega), List.getElem?_eq_none (by simp; omega)]
/-- A match is counted for a row. -/
def cntF (F : Nat → Nat → Int) (d : Nat) (s : Int) (f : Bool) : Nat → Nat → Int := if f then addF F d s else upF (addF F d s) d 3 (F d 3 + 1)
set_option maxRecDepth 100000 in
set_option maxHeartbeats 2000000 in
theorem l26Count_any (n d g : Nat) (F : Nat → Nat → Int) (rest : List Value) (s : Int) (f : Bool) (w : World) (hb : Blk w g 54 (flatR n F rest)) (hd : d < n) (hn : n ≤ 12) (h0 : 0 ≤ s) (h2 : s ≤ 2) (f1 : 0 ≤ F d 1 ∧ F d 1 ≤ 1000000000) (f2 : 0 ≤ F d 2 ∧ F d 2 ≤ 1000000000) (f3 : 0 ≤ F d 3 ∧ F d 3 ≤ 1000000000) :
    Calls Try.prog 40 #[.pointer (some ⟨g, d * 6, none⟩), .int .i64 s, .bool f] w fun e w' => e = .returned (.tuple #[]) ∧ Blk w' g 54 (flatR n (cntF F d s f) rest) ∧ w.grownBy w' (some g) := by
  have c1 := (hb.cell (d * 6 + 1)).trans (flatR_at F rest hd (by omega))
  have c2 := (hb.cell (d * 6 + 2)).trans (flatR_at F rest hd (by omega))
  have c3 := (hb.cell (d * 6 + 3)).trans (flatR_at F rest hd (by omega))
  have k1 := hb.free (d * 6 + 1)
  have k2 := hb.free (d * 6 + 2)
  have k3 := hb.free (d * 6 + 3)
  obtain ⟨a1, b1⟩ := f1
  obtain ⟨a2, b2⟩ := f2
  obtain ⟨a3, b3⟩ := f3
  have HB := Lib.hid hb
  clear hb
  by_cases hs : s = 2
  case pos =>
    have hse : (s == 2) = true := beq_iff_eq.2 hs
    have HA : Hid (addF F d s = upF (upF F d 1 (F d 1 + s)) d 2 (F d 2 + 1)) := by unfold Hid; rw [addF, if_pos hs]
    clear hs
    cases f
    case true =>
      have HC : Hid (cntF F d s true = addF F d s) := rfl
      go_enter Try.func40, Try.ntmps40
      go_wp2_with fail
      go_end0
      refine ⟨rfl, ?_, only_setCell (p := ⟨g, d * 6 + 2, none⟩) (only_setCell (p := ⟨g, d * 6 + 1, none⟩) (World.grownBy.refl _ _) (.inl rfl) _) (.inl rfl) _⟩
      rw [HC.out, HA.out, ← flatR_set _ _ hd (by omega), ← flatR_set _ _ hd (by omega)]
      exact Blk.set (Blk.set HB.out (d * 6 + 1) _) (d * 6 + 2) _
    case false =>
      have HC : Hid (cntF F d s false = upF (addF F d s) d 3 (F d 3 + 1)) := rfl
      go_enter Try.func40, Try.ntmps40
      go_wp2_with fail
      go_end0
      refine ⟨rfl, ?_, only_setCell (p := ⟨g, d * 6 + 3, none⟩) (only_setCell (p := ⟨g, d * 6 + 2, none⟩) (only_setCell (p := ⟨g, d * 6 + 1, none⟩) (World.grownBy.refl _ _) (.inl rfl) _) (.inl rfl) _) (.inl rfl) _⟩
      rw [HC.out, HA.out, ← flatR_set _ _ hd (by omega), ← flatR_set _ _ hd (by omega), ← flatR_set _ _ hd (by omega)]
      exact Blk.set (Blk.set (Blk.set HB.out (d * 6 + 1) _) (d * 6 + 2) _) (d * 6 + 3) _
  case neg =>
    have hse : (s == 2) = false := beq_eq_false_iff_ne.2 hs
    have HA : Hid (addF F d s = upF F d 1 (F d 1 + s)) := by unfold Hid; rw [addF, if_neg hs]
    clear hs
    cases f
    case true =>
      have HC : Hid (cntF F d s true = addF F d s) := rfl
      go_enter Try.func40, Try.ntmps40
      go_wp2_with fail
      go_end0
      refine ⟨rfl, ?_, only_setCell (p := ⟨g, d * 6 + 1, none⟩) (World.grownBy.refl _ _) (.inl rfl) _⟩
      rw [HC.out, HA.out, ← flatR_set _ _ hd (by omega)]
      exact Blk.set HB.out (d * 6 + 1) _
    case false =>
      have HC : Hid (cntF F d s false = upF (addF F d s) d 3 (F d 3 + 1)) := rfl
      go_enter Try.func40, Try.ntmps40
      go_wp2_with fail
      go_end0
      refine ⟨rfl, ?_, only_setCell (p := ⟨g, d * 6 + 3, none⟩) (only_setCell (p := ⟨g, d * 6 + 1, none⟩) (World.grownBy.refl _ _) (.inl rfl) _) (.inl rfl) _⟩
      rw [HC.out, HA.out, ← flatR_set _ _ hd (by omega), ← flatR_set _ _ hd (by omega)]
      exact Blk.set (Blk.set HB.out (d * 6 + 1) _) (d * 6 + 3) _
theorem Bd.cnt {F : Nat → Nat → Int} {m1 m2 m3 m4 m5 : Int} (h : Bd F m1 m2 m3 m4 m5) (d : Nat) {s : Int} (f : Bool) (h0 : 0 ≤ s) (h2 : s ≤ 2) : Bd (cntF F d s f) (m1 + 2) (m2 + 1) (m3 + 1) m4 m5 := by
  have hb := h.add d h0 h2
  unfold cntF
  split
  · exact hb.mono (by omega) (by omega) (by omega) (by omega) (by omega)
  · intro a
    have ha := hb a
    have hd := h d
    simp only [upF]
    refine ⟨?_, ?_, ?_, ?_, ?_⟩
    all_goals (repeat' split)
    all_goals omega
/-- A match's sums. -/
def addA (F : Nat → Nat → Int) (x y : Nat) (s : Int) : Nat → Nat → Int := upF (upF (upF (upF F x 4 (F x 4 + F y 1)) y 4 (F y 4 + F x 1)) x 5 (F x 5 + F y 1 * s)) y 5 (F y 5 + F x 1 * (2 - s))
theorem Bd.addA {F : Nat → Nat → Int} {m1 m2 m3 m4 m5 : Int} (h : Bd F m1 m2 m3 m4 m5) (x y : Nat) {s : Int} (h0 : 0 ≤ s) (h2 : s ≤ 2) : Bd (addA F x y s) m1 m2 m3 (m4 + m1) (m5 + 2 * m1) := by
  intro a
  have ha := h a
  have hx := h x
  have hy := h y
  have p0 : 0 ≤ F y 1 * s := Int.mul_nonneg hy.1.1 h0
  have p1 : F y 1 * s ≤ 2 * m1 := by
    have := Int.mul_le_mul hy.1.2 h2 h0 (by omega : (0 : Int) ≤ m1)
    omega
  have q0 : 0 ≤ F x 1 * (2 - s) := Int.mul_nonneg hx.1.1 (by omega)
  have q1 : F x 1 * (2 - s) ≤ 2 * m1 := by
    have := Int.mul_le_mul hx.1.2 (show 2 - s ≤ 2 by omega) (by omega) (by omega : (0 : Int) ≤ m1)
    omega
  unfold Proofs.Ytlogcbiebpfmlaa.addA
  revert p0 p1 q0 q1
  generalize F y 1 * s = u
  generalize F x 1 * (2 - s) = v
  intro p0 p1 q0 q1
  simp only [upF]
  refine ⟨?_, ?_, ?_, ?_, ?_⟩
  all_goals (repeat' split)
  all_goals omega
def G1 (vs : List Value) : Nat → Nat → Nat → Int
  | 0 => F1 vs 0
  | k + 1 => cntF (cntF (G1 vs k) (intAt vs (k * 4)).toNat (intAt vs (k * 4 + 2)) (boolAt vs (k * 4 + 3))) (intAt vs (k * 4 + 1)).toNat (2 - intAt vs (k * 4 + 2)) (boolAt vs (k * 4 + 3))
def G2 (vs : List Value) (c : Nat) : Nat → Nat → Nat → Int
  | 0 => G1 vs c
  | k + 1 => if boolAt vs (k * 4 + 3) then G2 vs c k else addA (G2 vs c k) (intAt vs (k * 4)).toNat (intAt vs (k * 4 + 1)).toNat (intAt vs (k * 4 + 2))
theorem G1_bd {vs : List Value} {c m : Nat} (h : okMs vs c m) : ∀ k, k ≤ c → Bd (G1 vs k) (4 * (k : Int)) (2 * (k : Int)) (2 * (k : Int)) 0 0 := by
  intro k
  induction k with
  | zero => intro _ a; simp [G1, F1]
  | succ k ih =>
    intro hk
    have hz := h k (by omega)
    rw [G1]
    exact (((ih (by omega)).cnt _ _ hz.2.2.2.2.2.1 hz.2.2.2.2.2.2).cnt _ _ (by omega) (by omega)).mono (by omega) (by omega) (by omega) (by omega) (by omega)
theorem G2_bd {vs : List Value} {c m : Nat} (h : okMs vs c m) (hc : c ≤ 150) : ∀ k, k ≤ c → Bd (G2 vs c k) 600 300 300 (1200 * (k : Int)) (2400 * (k : Int)) := by
  intro k
  induction k with
  | zero => intro _; exact (G1_bd h c (Nat.le_refl _)).mono (by omega) (by omega) (by omega) (by omega) (by omega)
  | succ k ih =>
    intro hk
    have hz := h k (by omega)
    rw [G2]
    split
    · exact (ih (by omega)).mono (by omega) (by omega) (by omega) (by omega) (by omega)
    · exact ((ih (by omega)).addA _ _ hz.2.2.2.2.2.1 hz.2.2.2.2.2.2).mono (by omega) (by omega) (by omega) (by omega) (by omega)
/-- How many games a player has had. -/
def gmF (vs : List Value) (a : Nat) : Nat → Int
  | 0 => 0
  | k + 1 => gmF vs a k + (if boolAt vs (k * 4 + 3) then 0 else (if a = (intAt vs (k * 4)).toNat then 1 else 0) + (if a = (intAt vs (k * 4 + 1)).toNat then 1 else 0))
theorem addF_congr {F G : Nat → Nat → Int} (h : ∀ a b, b ≠ 3 → F a b = G a b) (d : Nat) (s : Int) : ∀ a b, b ≠ 3 → addF F d s a b = addF G d s a b := by
  intro a b hb
  have h1 := h d 1 (by omega)
  have h2 := h d 2 (by omega)
  have h3 := h a b hb
  unfold addF
  split
  all_goals
    simp only [upF]
    repeat' split
    all_goals omega
theorem addF_3 (F : Nat → Nat → Int) (d : Nat) (s : Int) (a : Nat) : addF F d s a 3 = F a 3 := by
  unfold addF
  split <;> simp [upF]
theorem cntF_ne3 (F : Nat → Nat → Int) (d : Nat) (s : Int) (f : Bool) (a b : Nat) (hb : b ≠ 3) : cntF F d s f a b = addF F d s a b := by
  unfold cntF
  split
  · rfl
  · simp only [upF]
    rw [if_neg (by omega)]
theorem cntF_3 (F : Nat → Nat → Int) (d : Nat) (s : Int) (f : Bool) (a : Nat) : cntF F d s f a 3 = F a 3 + (if f then 0 else if a = d then 1 else 0) := by
  unfold cntF
  cases f
  · simp only [Bool.false_eq_true, if_false, upF, addF_3]
    by_cases h : a = d
    · subst h; simp
    · simp [h]
  · simp [addF_3]
theorem FG1 {vs : List Value} : ∀ k, (∀ a b, b ≠ 3 → F1 vs k a b = G1 vs k a b) ∧ (∀ a, G1 vs k a 3 = gmF vs a k) ∧ (∀ a, F1 vs k a 3 = 0) := by
  intro k
  induction k with
  | zero => exact ⟨fun a b _ => rfl, fun a => by simp [G1, F1, gmF], fun a => by simp [F1]⟩
  | succ k ih =>
    obtain ⟨i1, i2, i3⟩ := ih
    refine ⟨fun a b hb => ?_, fun a => ?_, fun a => ?_⟩
    · rw [F1, G1, cntF_ne3 _ _ _ _ _ _ hb]
      exact addF_congr (fun a b hb => (addF_congr i1 _ _ a b hb).trans (cntF_ne3 _ _ _ _ _ _ hb).symm) _ _ a b hb
    · rw [G1, cntF_3, cntF_3, i2, gmF]
      split <;> omega
    · rw [F1, addF_3, addF_3, i3]
theorem play_addA {F : Nat → Nat → Int} {x y : Nat} (hne : x ≠ y) (s : Int) (a b : Nat) (hb : b ≠ 3) : playF (playF F x y s) y x (2 - s) a b = addA F x y s a b := by
  have hne' := hne.symm
  by_cases h4 : b = 4
  · subst h4
    by_cases hx : a = x
    · subst hx; simp [playF, addA, upF, hne]
    · by_cases hy : a = y
      · subst hy; simp [playF, addA, upF, hne']
      · simp [playF, addA, upF, hx, hy]
  · by_cases h5 : b = 5
    · subst h5
      by_cases hx : a = x
      · subst hx; simp [playF, addA, upF, hne]
      · by_cases hy : a = y
        · subst hy; simp [playF, addA, upF, hne']
        · simp [playF, addA, upF, hx, hy]
    · simp [playF, addA, upF, hb, h4, h5]
theorem play_3 {F : Nat → Nat → Int} {x y : Nat} (hne : x ≠ y) (s : Int) (a : Nat) : playF (playF F x y s) y x (2 - s) a 3 = F a 3 + ((if a = x then 1 else 0) + (if a = y then 1 else 0)) := by
  by_cases hx : a = x
  · subst hx; simp [playF, upF, hne]
  · by_cases hy : a = y
    · subst hy; simp [playF, upF, hne, hx, Ne.symm hne]
    · simp [playF, upF, hx, hy]
theorem addA_congr {F G : Nat → Nat → Int} (h : ∀ a b, b ≠ 3 → F a b = G a b) (x y : Nat) (s : Int) (a b : Nat) (hb : b ≠ 3) : addA F x y s a b = addA G x y s a b := by
  unfold addA
  rw [h x 4 (by omega), h y 1 (by omega), h y 4 (by omega), h x 1 (by omega), h x 5 (by omega), h y 5 (by omega)]
  simp only [upF]
  repeat' split
  all_goals first | rfl | exact h a b hb
theorem addA_3 (F : Nat → Nat → Int) (x y : Nat) (s : Int) (a : Nat) : addA F x y s a 3 = F a 3 := by simp [addA, upF]
theorem FG2 {vs : List Value} {c m : Nat} (h : okMs vs c m) : ∀ k, k ≤ c → (∀ a b, b ≠ 3 → F2 vs c k a b = G2 vs c k a b) ∧ (∀ a, F2 vs c k a 3 = gmF vs a k) ∧ (∀ a, G2 vs c k a 3 = gmF vs a c) := by
  intro k
  induction k with
  | zero =>
    intro _
    obtain ⟨i1, i2, i3⟩ := FG1 (vs := vs) c
    exact ⟨i1, fun a => (i3 a).trans (by rw [gmF]), i2⟩
  | succ k ih =>
    intro hk
    obtain ⟨i1, i2, i3⟩ := ih (by omega)
    have hz := h k (by omega)
    have hne : (intAt vs (k * 4)).toNat ≠ (intAt vs (k * 4 + 1)).toNat := by omega
    rw [F2, G2]
    cases hf : boolAt vs (k * 4 + 3)
    · simp only [Bool.false_eq_true, if_false]
      refine ⟨fun a b hb => ?_, fun a => ?_, fun a => ?_⟩
      · rw [play_addA hne _ _ _ hb]
        exact addA_congr i1 _ _ _ a b hb
      · rw [play_3 hne, i2, gmF, hf]
        simp
      · rw [addA_3, i3]
    · simp only [if_true]
      refine ⟨i1, fun a => ?_, i3⟩
      rw [i2, gmF, hf]
      simp
theorem FG_all {vs : List Value} {c m n : Nat} (h : okMs vs c m) : flatF n (G2 vs c c) = flatF n (F2 vs c c) := by
  obtain ⟨i1, i2, i3⟩ := FG2 h c (Nat.le_refl _)
  refine flatF_congr fun a b _ => ?_
  by_cases hb : b = 3
  · subst hb; rw [i2, i3]
  · exact (i1 a b hb).symm
end Go.Proofs.Ytlogcbiebpfmlaa
