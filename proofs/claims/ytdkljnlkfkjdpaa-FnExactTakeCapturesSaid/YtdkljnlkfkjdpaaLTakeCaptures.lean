/- FnExactTakeCaptures: for every input the call returns true and each argument reads afterwards as it read before. Conditions: none beyond the row's own. -/
import Derived.Test.YtdkljnlkfkjdpaaCapTa
import Derived.Test.YtdkljnlkfkjdpaaSl
import Derived.Test.YtdkljnlkfkjdpaaRows
namespace Go.Proofs.Ytdkljnlkfkjdpaa.fnExactTakeCaptures
open Go.ChangeShapes Go.WideShapes Go.ChangeAt Go.RowKit
set_option linter.unusedVariables false
theorem own : ownKnob Try.prog.godebug = none := by kernel_rfl
theorem laidOut : laidOutB Try.prog = true := by kernel_rfl
theorem readable : Try.f7.params.toList.all (fun t => Try.prog.readableRec t && decide (t < Try.prog.types.size)) = true := by kernel_rfl
set_option maxRecDepth 100000 in
theorem lifted (os : Os) (started : os.Started) (H : Type) (enc : TypeId × Value → H) :
    ReturnsInHanded {} Try.checked os 7 .any (Rows.fnExactTakeCapturesSpec.pre6 enc Try.prog Try.f7 Rows.fnExactTakeCapturesRow.domain false) (Rows.fnExactTakeCapturesSpec.post enc Try.prog Try.f7 false true false false) := by
  refine returnsInHanded_of_change (C := Try.checked) own started (by kernel_rfl) Try.func7
    (ChangeSpec.witness6 (enc := enc) (C := Try.checked) false ⟨#[], #[.agg #[.int .i64 0, .int .i64 0, .bool false, .bool false, .bool false, .bool false, .bool false, .int .i64 0, .int .i64 0], .agg #[.slice none 0 0, .slice none 0 0, .int .i64 0, .int .i64 0], .int .i64 0], []⟩ 8 (by kernel_rfl) (by kernel_rfl) (by kernel_rfl) (by kernel_rfl)) ?_
  intro W base args ds gs before hval0 hW hcnd _
  have hval : ∀ (j : Nat) t v, Try.f7.params[j]? = some t → args[j]? = some v → Value.okWide Try.prog W .any base t v := hval0
  have hW' := hW
  obtain ⟨p, q, hA0, hV, hpq, hfz, hnd⟩ := hW
  have hA : DataW.TrodAll enc Try.prog W 0 (fun _ => true) true Try.f7.params.toList args.toList ds p := hA0
  rw [Try.params7] at hA hval
  obtain ⟨v0, vs0, d0, ds0, p0, q0, hargs, rfl, rfl, h0, r0⟩ := trodAll_cons hA
  obtain ⟨v1, vs1, d1, ds1, p1, q1, rfl, rfl, rfl, h1, r1⟩ := trodAll_cons r0
  obtain ⟨v2, vs2, d2, ds2, p2, q2, rfl, rfl, rfl, h2, r2⟩ := trodAll_cons r1
  obtain ⟨rfl, rfl, rfl⟩ := trodAll_nil r2
  obtain rfl : args = #[v0, v1, v2] := by cases args; simp_all
  obtain ⟨rfl, rfl⟩ := trodVars_none hV
  clear hA0 hval0
  have hpost : ∀ W1, Below W.heap.size W W1 → Rows.fnExactTakeCapturesSpec.post enc Try.prog Try.f7 false true false false W #[v0, v1, v2] (.bool true) W1 :=
    fun W1 hb => law_post (f := Try.f7) (tb := 4) laidOut readable rfl (by kernel_rfl) Try.underlying4 hW' rfl hb
  obtain ⟨cs0, rfl, hlen0, hf0⟩ := open_flat 9 Try.underlying23 (by kernel_rfl) (by kernel_rfl) rfl (hval 0 23 v0 rfl rfl) h0
  obtain ⟨c0_0, c0_1, c0_2, c0_3, c0_4, c0_5, c0_6, c0_7, c0_8, rfl⟩ := list9 hlen0
  obtain ⟨_, n0_0, y0_0, e0_0, hy0_0⟩ := hf0 0 _ rfl
  cases e0_0
  obtain ⟨a0_0, rfl, wa0_0⟩ := leaf_int Try.underlying2 hy0_0
  obtain ⟨_, n0_1, y0_1, e0_1, hy0_1⟩ := hf0 1 _ rfl
  cases e0_1
  obtain ⟨a0_1, rfl, wa0_1⟩ := leaf_int Try.underlying2 hy0_1
  obtain ⟨_, n0_2, y0_2, e0_2, hy0_2⟩ := hf0 2 _ rfl
  cases e0_2
  obtain ⟨a0_2, rfl⟩ := leaf_bool Try.underlying4 hy0_2
  obtain ⟨_, n0_3, y0_3, e0_3, hy0_3⟩ := hf0 3 _ rfl
  cases e0_3
  obtain ⟨a0_3, rfl⟩ := leaf_bool Try.underlying4 hy0_3
  obtain ⟨_, n0_4, y0_4, e0_4, hy0_4⟩ := hf0 4 _ rfl
  cases e0_4
  obtain ⟨a0_4, rfl⟩ := leaf_bool Try.underlying4 hy0_4
  obtain ⟨_, n0_5, y0_5, e0_5, hy0_5⟩ := hf0 5 _ rfl
  cases e0_5
  obtain ⟨a0_5, rfl⟩ := leaf_bool Try.underlying4 hy0_5
  obtain ⟨_, n0_6, y0_6, e0_6, hy0_6⟩ := hf0 6 _ rfl
  cases e0_6
  obtain ⟨a0_6, rfl⟩ := leaf_bool Try.underlying4 hy0_6
  obtain ⟨_, n0_7, y0_7, e0_7, hy0_7⟩ := hf0 7 _ rfl
  cases e0_7
  obtain ⟨a0_7, rfl, wa0_7⟩ := leaf_int Try.underlying2 hy0_7
  obtain ⟨_, n0_8, y0_8, e0_8, hy0_8⟩ := hf0 8 _ rfl
  cases e0_8
  obtain ⟨a0_8, rfl, wa0_8⟩ := leaf_int Try.underlying2 hy0_8
  obtain ⟨cs1, rfl, hlen1, hf1⟩ := open_flat 4 Try.underlying26 (by kernel_rfl) (by kernel_rfl) rfl (hval 1 26 v1 rfl rfl) h1
  obtain ⟨c1_0, c1_1, c1_2, c1_3, rfl⟩ := list4 hlen1
  obtain ⟨_, n1_0, y1_0, e1_0, hy1_0⟩ := hf1 0 _ rfl
  cases e1_0
  obtain ⟨A1_0, m1_0, k1_0, xs1_0, rfl, hnc1_0, hcm1_0, hs1_0, he1_0⟩ := leaf_row Try.underlying24 (by kernel_rfl : Try.prog.cellsOf 2 = 1) (by omega) hy1_0
  obtain ⟨zs1_0, rfl, hz1_0⟩ := row_ints Try.underlying2 hs1_0.1 he1_0
  obtain ⟨_, n1_1, y1_1, e1_1, hy1_1⟩ := hf1 1 _ rfl
  cases e1_1
  obtain ⟨A1_1, m1_1, k1_1, xs1_1, rfl, hnc1_1, hcm1_1, hs1_1, he1_1⟩ := leaf_row Try.underlying24 (by kernel_rfl : Try.prog.cellsOf 2 = 1) (by omega) hy1_1
  obtain ⟨zs1_1, rfl, hz1_1⟩ := row_ints Try.underlying2 hs1_1.1 he1_1
  obtain ⟨_, n1_2, y1_2, e1_2, hy1_2⟩ := hf1 2 _ rfl
  cases e1_2
  obtain ⟨a1_2, rfl, wa1_2⟩ := leaf_int Try.underlying2 hy1_2
  obtain ⟨_, n1_3, y1_3, e1_3, hy1_3⟩ := hf1 3 _ rfl
  cases e1_3
  obtain ⟨a1_3, rfl, wa1_3⟩ := leaf_int Try.underlying2 hy1_3
  obtain ⟨a2, rfl, rfl, rfl, wa2⟩ := open_int Try.underlying2 (hval 2 2 v2 rfl rfl) h2
  refine (ta_walk a0_0 a0_1 a0_2 a0_3 a0_4 a0_5 a0_6 a0_7 a0_8 A1_0 m1_0 k1_0 zs1_0 A1_1 m1_1 k1_1 zs1_1 a1_2 a1_3 a2 W hs1_0 (Nat.le_trans hnc1_0 hcm1_0) hs1_1 (Nat.le_trans hnc1_1 hcm1_1)).mono fun e W1 ⟨he, hb⟩ => ?_
  subst he
  exact ⟨_, rfl, hpost W1 hb⟩
theorem over : Rows.fnExactTakeCapturesRow.holds Try.pinned (OpenSpec.ofChange Rows.fnExactTakeCapturesSpec) :=
  OpenClaim.holds_of_wide 7 Try.f7 rfl rfl rfl rfl rfl rfl rfl ⟨rfl, rfl, rfl, rfl, rfl⟩ rfl rfl rfl rfl rfl (by kernel_rfl) Try.func7 (by kernel_rfl)
    (of_decide_eq_true (by kernel_rfl)) (by unfold Func.isWrapper; first | (rw [if_pos (by decide +kernel)]; kernel_rfl) | (rw [if_neg (by decide +kernel)]; exact ⟨rfl, rfl⟩))
    (fun os started H enc _ => lifted os started H enc)
theorem proved : Rows.FnExactTakeCapturesSaid := over
#print axioms proved
end Go.Proofs.Ytdkljnlkfkjdpaa.fnExactTakeCaptures
