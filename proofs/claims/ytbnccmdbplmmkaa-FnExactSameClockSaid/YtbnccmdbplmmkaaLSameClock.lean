/- FnExactSameClock: for every input the call returns true and each argument reads afterwards as it read before. Conditions: none beyond the row's own. -/
import Derived.Test.YtbnccmdbplmmkaaClock6
import Derived.Test.YtbnccmdbplmmkaaSl
import Derived.Test.YtbnccmdbplmmkaaRows
namespace Go.Proofs.Ytbnccmdbplmmkaa.fnExactSameClock
open Go.ChangeShapes Go.WideShapes Go.ChangeAt Go.RowKit
set_option linter.unusedVariables false
theorem own : ownKnob Try.prog.godebug = none := by kernel_rfl
theorem laidOut : laidOutB Try.prog = true := by kernel_rfl
theorem readable : Try.f5.params.toList.all (fun t => Try.prog.readableRec t && decide (t < Try.prog.types.size)) = true := by kernel_rfl
set_option maxRecDepth 100000 in
theorem lifted (os : Os) (started : os.Started) (H : Type) (enc : TypeId × Value → H) :
    ReturnsInHanded {} Try.checked os 5 .any (Rows.fnExactSameClockSpec.pre6 enc Try.prog Try.f5 Rows.fnExactSameClockRow.domain false) (Rows.fnExactSameClockSpec.post enc Try.prog Try.f5 false true false false) := by
  refine returnsInHanded_of_change (C := Try.checked) own started (by kernel_rfl) Try.func5
    (ChangeSpec.witness6 (enc := enc) (C := Try.checked) false ⟨#[], #[.agg #[.slice none 0 0, .int .i64 0, .int .i64 0, .int .i64 0, .int .i64 0, .bool false, .bool false], .agg #[.slice none 0 0, .int .i64 0, .int .i64 0, .int .i64 0, .int .i64 0, .bool false, .bool false]], []⟩ 8 (by kernel_rfl) (by kernel_rfl) (by kernel_rfl) (by kernel_rfl)) ?_
  intro W base args ds gs before hval0 hW hcnd _
  have hval : ∀ (j : Nat) t v, Try.f5.params[j]? = some t → args[j]? = some v → Value.okWide Try.prog W .any base t v := hval0
  have hW' := hW
  obtain ⟨p, q, hA0, hV, hpq, hfz, hnd⟩ := hW
  have hA : DataW.TrodAll enc Try.prog W 0 (fun _ => true) true Try.f5.params.toList args.toList ds p := hA0
  rw [Try.params5] at hA hval
  obtain ⟨v0, vs0, d0, ds0, p0, q0, hargs, rfl, rfl, h0, r0⟩ := trodAll_cons hA
  obtain ⟨v1, vs1, d1, ds1, p1, q1, rfl, rfl, rfl, h1, r1⟩ := trodAll_cons r0
  obtain ⟨rfl, rfl, rfl⟩ := trodAll_nil r1
  obtain rfl : args = #[v0, v1] := by cases args; simp_all
  obtain ⟨rfl, rfl⟩ := trodVars_none hV
  clear hA0 hval0
  have hpost : ∀ W1, Below W.heap.size W W1 → Rows.fnExactSameClockSpec.post enc Try.prog Try.f5 false true false false W #[v0, v1] (.bool true) W1 :=
    fun W1 hb => law_post (f := Try.f5) (tb := 4) laidOut readable rfl (by kernel_rfl) Try.underlying4 hW' rfl hb
  obtain ⟨cs0, rfl, hlen0, hf0⟩ := open_flat 7 Try.underlying30 (by kernel_rfl) (by kernel_rfl) rfl (hval 0 30 v0 rfl rfl) h0
  obtain ⟨c0_0, c0_1, c0_2, c0_3, c0_4, c0_5, c0_6, rfl⟩ := list7 hlen0
  obtain ⟨_, n0_0, y0_0, e0_0, hy0_0⟩ := hf0 0 _ rfl
  cases e0_0
  obtain ⟨A0_0, m0_0, k0_0, xs0_0, rfl, hnc0_0, hcm0_0, hs0_0, he0_0⟩ := leaf_row Try.underlying22 (by kernel_rfl : Try.prog.cellsOf 2 = 1) (by omega) hy0_0
  obtain ⟨zs0_0, rfl, hz0_0⟩ := row_ints Try.underlying2 hs0_0.1 he0_0
  obtain ⟨_, n0_1, y0_1, e0_1, hy0_1⟩ := hf0 1 _ rfl
  cases e0_1
  obtain ⟨a0_1, rfl, wa0_1⟩ := leaf_int Try.underlying2 hy0_1
  obtain ⟨_, n0_2, y0_2, e0_2, hy0_2⟩ := hf0 2 _ rfl
  cases e0_2
  obtain ⟨a0_2, rfl, wa0_2⟩ := leaf_int Try.underlying2 hy0_2
  obtain ⟨_, n0_3, y0_3, e0_3, hy0_3⟩ := hf0 3 _ rfl
  cases e0_3
  obtain ⟨a0_3, rfl, wa0_3⟩ := leaf_int Try.underlying2 hy0_3
  obtain ⟨_, n0_4, y0_4, e0_4, hy0_4⟩ := hf0 4 _ rfl
  cases e0_4
  obtain ⟨a0_4, rfl, wa0_4⟩ := leaf_int Try.underlying2 hy0_4
  obtain ⟨_, n0_5, y0_5, e0_5, hy0_5⟩ := hf0 5 _ rfl
  cases e0_5
  obtain ⟨a0_5, rfl⟩ := leaf_bool Try.underlying4 hy0_5
  obtain ⟨_, n0_6, y0_6, e0_6, hy0_6⟩ := hf0 6 _ rfl
  cases e0_6
  obtain ⟨a0_6, rfl⟩ := leaf_bool Try.underlying4 hy0_6
  obtain ⟨cs1, rfl, hlen1, hf1⟩ := open_flat 7 Try.underlying30 (by kernel_rfl) (by kernel_rfl) rfl (hval 1 30 v1 rfl rfl) h1
  obtain ⟨c1_0, c1_1, c1_2, c1_3, c1_4, c1_5, c1_6, rfl⟩ := list7 hlen1
  obtain ⟨_, n1_0, y1_0, e1_0, hy1_0⟩ := hf1 0 _ rfl
  cases e1_0
  obtain ⟨A1_0, m1_0, k1_0, xs1_0, rfl, hnc1_0, hcm1_0, hs1_0, he1_0⟩ := leaf_row Try.underlying22 (by kernel_rfl : Try.prog.cellsOf 2 = 1) (by omega) hy1_0
  obtain ⟨zs1_0, rfl, hz1_0⟩ := row_ints Try.underlying2 hs1_0.1 he1_0
  obtain ⟨_, n1_1, y1_1, e1_1, hy1_1⟩ := hf1 1 _ rfl
  cases e1_1
  obtain ⟨a1_1, rfl, wa1_1⟩ := leaf_int Try.underlying2 hy1_1
  obtain ⟨_, n1_2, y1_2, e1_2, hy1_2⟩ := hf1 2 _ rfl
  cases e1_2
  obtain ⟨a1_2, rfl, wa1_2⟩ := leaf_int Try.underlying2 hy1_2
  obtain ⟨_, n1_3, y1_3, e1_3, hy1_3⟩ := hf1 3 _ rfl
  cases e1_3
  obtain ⟨a1_3, rfl, wa1_3⟩ := leaf_int Try.underlying2 hy1_3
  obtain ⟨_, n1_4, y1_4, e1_4, hy1_4⟩ := hf1 4 _ rfl
  cases e1_4
  obtain ⟨a1_4, rfl, wa1_4⟩ := leaf_int Try.underlying2 hy1_4
  obtain ⟨_, n1_5, y1_5, e1_5, hy1_5⟩ := hf1 5 _ rfl
  cases e1_5
  obtain ⟨a1_5, rfl⟩ := leaf_bool Try.underlying4 hy1_5
  obtain ⟨_, n1_6, y1_6, e1_6, hy1_6⟩ := hf1 6 _ rfl
  cases e1_6
  obtain ⟨a1_6, rfl⟩ := leaf_bool Try.underlying4 hy1_6
  refine (sc_walk A0_0 m0_0 k0_0 zs0_0 a0_1 a0_2 a0_3 a0_4 a0_5 a0_6 A1_0 m1_0 k1_0 zs1_0 a1_1 a1_2 a1_3 a1_4 a1_5 a1_6 W hs0_0 (Nat.le_trans hnc0_0 hcm0_0) hs1_0 (Nat.le_trans hnc1_0 hcm1_0)).mono fun e W1 ⟨he, hb⟩ => ?_
  subst he
  exact ⟨_, rfl, hpost W1 hb⟩
theorem over : Rows.fnExactSameClockRow.holds Try.pinned (OpenSpec.ofChange Rows.fnExactSameClockSpec) :=
  OpenClaim.holds_of_wide 5 Try.f5 rfl rfl rfl rfl rfl rfl rfl ⟨rfl, rfl, rfl, rfl, rfl⟩ rfl rfl rfl rfl rfl (by kernel_rfl) Try.func5 (by kernel_rfl)
    (of_decide_eq_true (by kernel_rfl)) (by unfold Func.isWrapper; first | (rw [if_pos (by decide +kernel)]; kernel_rfl) | (rw [if_neg (by decide +kernel)]; exact ⟨rfl, rfl⟩))
    (fun os started H enc _ => lifted os started H enc)
theorem proved : Rows.FnExactSameClockSaid := over
#print axioms proved
end Go.Proofs.Ytbnccmdbplmmkaa.fnExactSameClock
