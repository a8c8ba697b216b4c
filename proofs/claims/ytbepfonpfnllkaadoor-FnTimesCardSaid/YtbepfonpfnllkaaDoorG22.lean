/- ReadRated: both functions, and the law. Conditions: the table of powers as it is laid. -/
import Derived.Test.YtbepfonpfnllkaaDoorG20
import Derived.Test.YtbepfonpfnllkaaDoorG04
import Derived.Test.YtbepfonpfnllkaaDoorG05
namespace Go.Proofs.YtbepfonpfnllkaaDoor
set_option linter.unusedSimpArgs false
set_option linter.unusedVariables false
open Go.RowKit Go.WideShapes Go.ChangeShapes

def rd2 (a b : Int × Bool) : Int × Int × Bool := if a.2 && b.2 && validB a.1 b.1 then (a.1, b.1, true) else (0, 0, false)
def rdR (l : List UInt8) : Int × Int × Bool := match splitL 47 l with
  | [x, y] => rd2 (numR ⟨x.toArray⟩) (numR ⟨y.toArray⟩)
  | _ => (0, 0, false)
theorem numR_mem {r : List UInt8} {c : UInt8} (h : c ∈ r) (h1 : c ≠ 45) (h2 : dgt c = false) : numR ⟨r.toArray⟩ = (0, false) := by
  have e : (⟨r.toArray⟩ : ByteArray).data.toList = r := by simp
  rw [numR, e]
  refine numL_bad (c := c) ?_ h2
  cases r with
  | nil => simp at h
  | cons x r =>
    rw [bodyL]
    split
    · rename_i hx
      rcases List.mem_cons.1 h with rfl | h
      · exact absurd hx h1
      · exact h
    · exact h
theorem dgt47 : dgt 47 = false := by decide
/-- What the program's function makes of the two parts. -/
theorem rdR_cut {l : List UInt8} {f r : ByteArray} {b : Bool} (hc : cutB 47 ⟨l.toArray⟩ = (f, r, b)) : rdR l = if b && (numR f).2 && (numR r).2 && validB (numR f).1 (numR r).1 then ((numR f).1, (numR r).1, true) else (0, 0, false) := by
  have e : (⟨l.toArray⟩ : ByteArray).data.toList = l := by simp
  rw [cutB, e] at hc
  rcases cut_cases 47 l with ⟨a, t, rfl, ha, h1, h2⟩ | ⟨ha, h1, h2⟩
  · rw [h1] at hc
    injection hc with e1 e2
    injection e2 with e2 e3
    subst e1 e2 e3
    by_cases h3 : ∀ x ∈ t, x ≠ 47
    · rw [rdR, h2, splitL_none h3]
      simp only [rd2, Bool.true_and]
    · obtain ⟨x, hx, rfl⟩ : ∃ x, x ∈ t ∧ x = 47 := by
        apply Classical.byContradiction
        intro hn
        exact h3 (fun x hx h => hn ⟨x, hx, h⟩)
      rw [numR_mem hx (by decide) dgt47]
      rcases cut_cases 47 t with ⟨a2, t2, rfl, _, _, h4⟩ | ⟨h5, _, _⟩
      · have hne : splitL 47 t2 ≠ [] := by
          rcases cut_cases 47 t2 with ⟨_, _, _, _, _, h6⟩ | ⟨_, _, h6⟩ <;> rw [h6] <;> simp
        rw [rdR, h2, h4]
        cases h7 : splitL 47 t2 with
        | nil => exact absurd h7 hne
        | cons y ys => simp
      · exact absurd rfl (h5 _ hx)
  · rw [h1] at hc
    injection hc with e1 e2
    injection e2 with e2 e3
    subst e1 e2 e3
    rw [rdR, h2]
    simp
theorem tup_r {a a' b b' : Int} {q q' : Bool} (h : (a, b, q) = (a', b', q')) : Ending.returned (.tuple #[.agg #[.int .i64 a, .int .i64 b], .bool q]) = .returned (.tuple #[.agg #[.int .i64 a', .int .i64 b'], .bool q']) := by
  injection h with h1 h2
  injection h2 with h2 h3
  rw [h1, h2, h3]
def ZR : Array Value := #[.int .i64 0, .int .i64 0]
theorem cut_len (c : UInt8) (s : ByteArray) : (cutB c s).1.size ≤ s.size ∧ (cutB c s).2.1.size ≤ s.size := by
  have hz := ba_len s
  rw [cutB]
  rcases cut_cases c s.data.toList with ⟨a, t, e, _, h1, _⟩ | ⟨_, h1, _⟩
  · rw [e, List.length_append, List.length_cons] at hz
    rw [h1]
    exact ⟨by show a.toArray.size ≤ _; simp; omega, by show t.toArray.size ≤ _; simp; omega⟩
  · rw [h1]
    exact ⟨by show s.data.toList.toArray.size ≤ _; simp; (first | done | exact Nat.le_refl _), by show (#[] : Array UInt8).size ≤ _; simp⟩
theorem split_mem (c : UInt8) (l : List UInt8) : ∀ x ∈ splitL c l, x.length ≤ l.length := by
  induction l with
  | nil => intro x hx; simp [splitL] at hx; subst hx; simp
  | cons y l ih =>
    intro x hx
    rw [splitL] at hx
    split at hx
    · rcases List.mem_cons.1 hx with rfl | hx
      · simp
      · have := ih x hx; simp; omega
    · split at hx
      · rw [List.mem_singleton.1 hx]; simp
      · rename_i h t e
        rw [e] at ih
        rcases List.mem_cons.1 hx with rfl | hx
        · have := ih h (List.mem_cons_self); simp; omega
        · have := ih x (List.mem_cons_of_mem _ hx); simp; omega
end Go.Proofs.YtbepfonpfnllkaaDoor
