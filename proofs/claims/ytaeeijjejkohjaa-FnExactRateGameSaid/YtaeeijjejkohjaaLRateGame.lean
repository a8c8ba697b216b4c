/- FnExactRateGame: for every input the call returns true and each argument reads afterwards as it read before. Conditions: none beyond the row's own. -/
import Derived.Test.YtaeeijjejkohjaaGame3
import Derived.Test.YtaeeijjejkohjaaSl
import Derived.Test.YtaeeijjejkohjaaRows
namespace Go.Proofs.Ytaeeijjejkohjaa.fnExactRateGame
open Go.ChangeShapes Go.WideShapes Go.ChangeAt Go.RowKit
set_option linter.unusedVariables false
theorem own : ownKnob Try.prog.godebug = none := by kernel_rfl
theorem laidOut : laidOutB Try.prog = true := by kernel_rfl
theorem readable : Try.f3.params.toList.all (fun t => Try.prog.readableRec t && decide (t < Try.prog.types.size)) = true := by kernel_rfl
set_option maxRecDepth 100000 in
theorem lifted (os : Os) (started : os.Started) (H : Type) (enc : TypeId × Value → H) :
    ReturnsInHanded {} Try.checked os 3 .any (Rows.fnExactRateGameSpec.pre6 enc Try.prog Try.f3 Rows.fnExactRateGameRow.domain false) (Rows.fnExactRateGameSpec.post enc Try.prog Try.f3 false true false false) := by
  refine returnsInHanded_of_change (C := Try.checked) own started (by kernel_rfl) Try.func3
    (ChangeSpec.witness6 (enc := enc) (C := Try.checked) false ⟨#[], #[.agg #[.int .i64 0, .int .i64 0], .agg #[.int .i64 0, .int .i64 0], .int .i64 0], []⟩ 8 (by kernel_rfl) (by kernel_rfl) (by kernel_rfl) (by kernel_rfl)) ?_
  intro W base args ds gs before hval0 hW hcnd _
  have hval : ∀ (j : Nat) t v, Try.f3.params[j]? = some t → args[j]? = some v → Value.okWide Try.prog W .any base t v := hval0
  have hW' := hW
  obtain ⟨p, q, hA0, hV, hpq, hfz, hnd⟩ := hW
  have hA : DataW.TrodAll enc Try.prog W 0 (fun _ => true) true Try.f3.params.toList args.toList ds p := hA0
  rw [Try.params3] at hA hval
  obtain ⟨v0, vs0, d0, ds0, p0, q0, hargs, rfl, rfl, h0, r0⟩ := trodAll_cons hA
  obtain ⟨v1, vs1, d1, ds1, p1, q1, rfl, rfl, rfl, h1, r1⟩ := trodAll_cons r0
  obtain ⟨v2, vs2, d2, ds2, p2, q2, rfl, rfl, rfl, h2, r2⟩ := trodAll_cons r1
  obtain ⟨rfl, rfl, rfl⟩ := trodAll_nil r2
  obtain rfl : args = #[v0, v1, v2] := by cases args; simp_all
  obtain ⟨rfl, rfl⟩ := trodVars_none hV
  clear hA0 hval0
  have hpost : ∀ W1, Below W.heap.size W W1 → Rows.fnExactRateGameSpec.post enc Try.prog Try.f3 false true false false W #[v0, v1, v2] (.bool true) W1 :=
    fun W1 hb => law_post (f := Try.f3) (tb := 4) laidOut readable rfl (by kernel_rfl) Try.underlying4 hW' rfl hb
  obtain ⟨cs0, rfl, hlen0, hf0⟩ := open_flat 2 Try.underlying23 (by kernel_rfl) (by kernel_rfl) rfl (hval 0 23 v0 rfl rfl) h0
  obtain ⟨c0_0, c0_1, rfl⟩ := list2 hlen0
  obtain ⟨_, n0_0, y0_0, e0_0, hy0_0⟩ := hf0 0 _ rfl
  cases e0_0
  obtain ⟨a0_0, rfl, wa0_0⟩ := leaf_int Try.underlying2 hy0_0
  obtain ⟨_, n0_1, y0_1, e0_1, hy0_1⟩ := hf0 1 _ rfl
  cases e0_1
  obtain ⟨a0_1, rfl, wa0_1⟩ := leaf_int Try.underlying2 hy0_1
  obtain ⟨cs1, rfl, hlen1, hf1⟩ := open_flat 2 Try.underlying23 (by kernel_rfl) (by kernel_rfl) rfl (hval 1 23 v1 rfl rfl) h1
  obtain ⟨c1_0, c1_1, rfl⟩ := list2 hlen1
  obtain ⟨_, n1_0, y1_0, e1_0, hy1_0⟩ := hf1 0 _ rfl
  cases e1_0
  obtain ⟨a1_0, rfl, wa1_0⟩ := leaf_int Try.underlying2 hy1_0
  obtain ⟨_, n1_1, y1_1, e1_1, hy1_1⟩ := hf1 1 _ rfl
  cases e1_1
  obtain ⟨a1_1, rfl, wa1_1⟩ := leaf_int Try.underlying2 hy1_1
  obtain ⟨a2, rfl, rfl, rfl, wa2⟩ := open_int Try.underlying2 (hval 2 2 v2 rfl rfl) h2
  refine (rg_walk a0_0 a0_1 a1_0 a1_1 a2 W ).mono fun e W1 ⟨he, hb⟩ => ?_
  subst he
  exact ⟨_, rfl, hpost W1 hb⟩
theorem over : Rows.fnExactRateGameRow.holds Try.pinned (OpenSpec.ofChange Rows.fnExactRateGameSpec) :=
  OpenClaim.holds_of_wide 3 Try.f3 rfl rfl rfl rfl rfl rfl rfl ⟨rfl, rfl, rfl, rfl, rfl⟩ rfl rfl rfl rfl rfl (by kernel_rfl) Try.func3 (by kernel_rfl)
    (of_decide_eq_true (by kernel_rfl)) (by unfold Func.isWrapper; first | (rw [if_pos (by decide +kernel)]; kernel_rfl) | (rw [if_neg (by decide +kernel)]; exact ⟨rfl, rfl⟩))
    (fun os started H enc _ => lifted os started H enc)
theorem proved : Rows.FnExactRateGameSaid := over
#print axioms proved
end Go.Proofs.Ytaeeijjejkohjaa.fnExactRateGame
