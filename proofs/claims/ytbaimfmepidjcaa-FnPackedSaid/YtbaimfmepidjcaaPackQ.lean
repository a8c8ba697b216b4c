/- One changed byte of a packed list is found out. No conditions. -/
import Derived.Test.YtbaimfmepidjcaaPackP
namespace Go.Proofs.Ytbaimfmepidjcaa
set_option linter.unusedSimpArgs false
set_option linter.unusedVariables false

theorem step_s {s t a : Nat} (hs : s < 65521) (ht : t < 65521) (h : (31 * s + a) % 65521 = (31 * t + a) % 65521) : s = t := by omega
theorem step_b {s a b : Nat} (ha : a < 256) (hb : b < 256) (h : (31 * s + a) % 65521 = (31 * s + b) % 65521) : a = b := by omega
theorem fold_s : ∀ (L : List UInt8) (s t : Nat), s < 65521 → t < 65521 → L.foldl (fun s b => (31 * s + b.toNat) % 65521) s = L.foldl (fun s b => (31 * s + b.toNat) % 65521) t → s = t
  | [], _, _, _, _, h => h
  | b :: L, s, t, hs, ht, h => step_s hs ht (fold_s L _ _ (Nat.mod_lt _ (by decide)) (Nat.mod_lt _ (by decide)) h)
theorem sum_set {L : List UInt8} {i : Nat} {b : UInt8} (hi : i < L.length) (h : sumL (L.set i b) = sumL L) : b = L[i] := by
  have e1 : L.set i b = L.take i ++ b :: L.drop (i + 1) := List.set_eq_take_append_cons_drop .. |>.trans (by rw [if_pos hi])
  have e2 : L = L.take i ++ L[i] :: L.drop (i + 1) := by
    have := (List.take_append_drop i L).symm
    rwa [List.drop_eq_getElem_cons hi] at this
  rw [e1] at h
  conv at h => rhs; rw [e2]
  simp only [sumL, List.foldl_append, List.foldl_cons] at h
  have h2 := fold_s _ _ _ (Nat.mod_lt _ (by decide)) (Nat.mod_lt _ (by decide)) h
  have h3 := step_b (UInt8.toNat_lt _) (UInt8.toNat_lt _) h2
  exact UInt8.toNat_inj.1 h3
theorem tail_sum {A B : List UInt8} (h : tailL A = tailL B) : sumL A = sumL B := by
  have ha := sumL_lt A
  have hb := sumL_lt B
  rw [tailL, tailL, List.cons.injEq, List.cons.injEq] at h
  obtain ⟨h1, h2, -⟩ := h
  rw [← UInt8.toNat_inj, UInt8.toNat_ofNat', UInt8.toNat_ofNat'] at h1 h2
  omega
theorem pick_changed {l : List Int} {i : Nat} {b : UInt8} (hi : i < (packL l).length) (hb : b ≠ (packL l)[i]) : pickI ((packL l).set i b) = none := by
  cases h : pickI ((packL l).set i b) with
  | none => rfl
  | some l' =>
    exfalso
    obtain ⟨-, h2⟩ := pickI_iff.1 h
    have hl : (bodyR (runsL l')).length = (bodyR (runsL l)).length := by
      have h3 := congrArg List.length h2
      simp only [packL, tailL, List.length_set, List.length_append, List.length_cons, List.length_nil] at h3
      omega
    revert hi hb h2
    rw [packL, packL]
    generalize bodyR (runsL l) = B at hl ⊢
    generalize bodyR (runsL l') = B' at hl ⊢
    intro hi hb h2
    rcases Nat.lt_or_ge i B.length with h3 | h3
    · rw [List.set_append_left _ _ h3] at h2
      obtain ⟨h4, h5⟩ := List.append_inj h2 (by rw [List.length_set, hl])
      rw [List.getElem_append_left h3] at hb
      refine hb (sum_set h3 ?_)
      rw [← h4]
      exact tail_sum h5
    · rw [List.set_append_right _ _ h3] at h2
      obtain ⟨h4, h5⟩ := List.append_inj h2 hl
      subst h4
      rw [List.getElem_append_right h3] at hb
      refine hb ?_
      have hj : i - B'.length < (tailL B').length := by rw [List.length_append] at hi; omega
      have h6 : ((tailL B').set (i - B'.length) b)[i - B'.length]'(by rw [List.length_set]; exact hj) = b := by simp
      rw [← h6]
      congr 1
      exact h5.symm
end Go.Proofs.Ytbaimfmepidjcaa
