/- FnExactPairByPoints: for every input the call returns true and each argument reads afterwards as it read before. Conditions: none beyond the row's own. -/
import Derived.Test.YteeplmnjipddaaaPr6
import Derived.Test.YteeplmnjipddaaaSl
import Derived.Test.YteeplmnjipddaaaRows
namespace Go.Proofs.Yteeplmnjipddaaa.fnExactPairByPoints
open Go.ChangeShapes Go.WideShapes Go.ChangeAt Go.RowKit
set_option linter.unusedVariables false
theorem own : ownKnob Try.prog.godebug = none := by kernel_rfl
theorem laidOut : laidOutB Try.prog = true := by kernel_rfl
theorem readable : Try.f4.params.toList.all (fun t => Try.prog.readableRec t && decide (t < Try.prog.types.size)) = true := by kernel_rfl
set_option maxRecDepth 100000 in
theorem lifted (os : Os) (started : os.Started) (H : Type) (enc : TypeId × Value → H) :
    ReturnsInHanded {} Try.checked os 4 .any (Rows.fnExactPairByPointsSpec.pre6 enc Try.prog Try.f4 Rows.fnExactPairByPointsRow.domain false) (Rows.fnExactPairByPointsSpec.post enc Try.prog Try.f4 false true false false) := by
  refine returnsInHanded_of_change (C := Try.checked) own started (by kernel_rfl) Try.func4
    (ChangeSpec.witness6 (enc := enc) (C := Try.checked) false ⟨#[], #[.slice none 0 0, .slice none 0 0], []⟩ 8 (by kernel_rfl) (by kernel_rfl) (by kernel_rfl) (by kernel_rfl)) ?_
  intro W base args ds gs before hval0 hW hcnd _
  have hval : ∀ (j : Nat) t v, Try.f4.params[j]? = some t → args[j]? = some v → Value.okWide Try.prog W .any base t v := hval0
  have hW' := hW
  obtain ⟨p, q, hA0, hV, hpq, hfz, hnd⟩ := hW
  have hA : DataW.TrodAll enc Try.prog W 0 (fun _ => true) true Try.f4.params.toList args.toList ds p := hA0
  rw [Try.params4] at hA hval
  obtain ⟨v0, vs0, d0, ds0, p0, q0, hargs, rfl, rfl, h0, r0⟩ := trodAll_cons hA
  obtain ⟨v1, vs1, d1, ds1, p1, q1, rfl, rfl, rfl, h1, r1⟩ := trodAll_cons r0
  obtain ⟨rfl, rfl, rfl⟩ := trodAll_nil r1
  obtain rfl : args = #[v0, v1] := by cases args; simp_all
  obtain ⟨rfl, rfl⟩ := trodVars_none hV
  clear hA0 hval0
  have hpost : ∀ W1, Below W.heap.size W W1 → Rows.fnExactPairByPointsSpec.post enc Try.prog Try.f4 false true false false W #[v0, v1] (.bool true) W1 :=
    fun W1 hb => law_post (f := Try.f4) (tb := 4) laidOut readable rfl (by kernel_rfl) Try.underlying4 hW' rfl hb
  obtain ⟨A0, n0, c0, xs0, rfl, hnc0, hcm0, hs0, he0⟩ := open_row Try.underlying24 (by kernel_rfl : Try.prog.cellsOf 2 = 1) (by omega) (hval 0 24 v0 rfl rfl) h0
  obtain ⟨zs0, rfl, hz0⟩ := row_ints Try.underlying2 hs0.1 he0
  obtain ⟨A1, n1, c1, xs1, rfl, hnc1, hcm1, hs1, he1⟩ := open_row Try.underlying34 (by kernel_rfl : Try.prog.cellsOf 67 = 2) (by omega) (hval 1 34 v1 rfl rfl) h1
  obtain ⟨zs1, rfl, hz1⟩ := row_flats (size := 2) Try.underlying67 (by kernel_rfl) rfl (by omega) (by intro f hf; simp at hf; rcases hf with rfl | rfl <;> exact Try.underlying2) hs1.1 he1
  refine (pb_walk A0 n0 c0 zs0 A1 n1 c1 zs1 W hs0 (Nat.le_trans hnc0 hcm0) hs1 (Nat.le_trans hnc1 hcm1)).mono fun e W1 ⟨he, hb⟩ => ?_
  subst he
  exact ⟨_, rfl, hpost W1 hb⟩
theorem over : Rows.fnExactPairByPointsRow.holds Try.pinned (OpenSpec.ofChange Rows.fnExactPairByPointsSpec) :=
  OpenClaim.holds_of_wide 4 Try.f4 rfl rfl rfl rfl rfl rfl rfl ⟨rfl, rfl, rfl, rfl, rfl⟩ rfl rfl rfl rfl rfl (by kernel_rfl) Try.func4 (by kernel_rfl)
    (of_decide_eq_true (by kernel_rfl)) (by unfold Func.isWrapper; first | (rw [if_pos (by decide +kernel)]; kernel_rfl) | (rw [if_neg (by decide +kernel)]; exact ⟨rfl, rfl⟩))
    (fun os started H enc _ => lifted os started H enc)
theorem proved : Rows.FnExactPairByPointsSaid := over
#print axioms proved
end Go.Proofs.Yteeplmnjipddaaa.fnExactPairByPoints
