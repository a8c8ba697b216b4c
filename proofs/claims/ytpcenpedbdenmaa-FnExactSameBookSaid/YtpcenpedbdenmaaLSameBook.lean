/- FnExactSameBook: for every input the call returns true and each argument reads afterwards as it read before. Conditions: none beyond the row's own. -/
import Derived.Test.YtpcenpedbdenmaaEntL
import Derived.Test.YtpcenpedbdenmaaSl
import Derived.Test.YtpcenpedbdenmaaRows
namespace Go.Proofs.Ytpcenpedbdenmaa.fnExactSameBook
open Go.ChangeShapes Go.WideShapes Go.ChangeAt Go.RowKit
set_option linter.unusedVariables false
theorem own : ownKnob Try.prog.godebug = none := by kernel_rfl
theorem laidOut : laidOutB Try.prog = true := by kernel_rfl
theorem readable : Try.f10.params.toList.all (fun t => Try.prog.readableRec t && decide (t < Try.prog.types.size)) = true := by kernel_rfl
set_option maxRecDepth 100000 in
theorem lifted (os : Os) (started : os.Started) (H : Type) (enc : TypeId × Value → H) :
    ReturnsInHanded {} Try.checked os 10 .any (Rows.fnExactSameBookSpec.pre6 enc Try.prog Try.f10 Rows.fnExactSameBookRow.domain false) (Rows.fnExactSameBookSpec.post enc Try.prog Try.f10 false true false false) := by
  refine returnsInHanded_of_change (C := Try.checked) own started (by kernel_rfl) Try.func10
    (ChangeSpec.witness6 (enc := enc) (C := Try.checked) false ⟨#[], #[.agg #[.int .i64 0, .int .i64 0, .bool false, .bool false, .bool false, .bool false, .bool false, .int .i64 0, .int .i64 0, .slice none 0 0], .agg #[.int .i64 0, .int .i64 0, .bool false, .bool false, .bool false, .bool false, .bool false, .int .i64 0, .int .i64 0, .slice none 0 0]], []⟩ 8 (by kernel_rfl) (by kernel_rfl) (by kernel_rfl) (by kernel_rfl)) ?_
  intro W base args ds gs before hval0 hW hcnd _
  have hval : ∀ (j : Nat) t v, Try.f10.params[j]? = some t → args[j]? = some v → Value.okWide Try.prog W .any base t v := hval0
  have hW' := hW
  obtain ⟨p, q, hA0, hV, hpq, hfz, hnd⟩ := hW
  have hA : DataW.TrodAll enc Try.prog W 0 (fun _ => true) true Try.f10.params.toList args.toList ds p := hA0
  rw [Try.params10] at hA hval
  obtain ⟨v0, vs0, d0, ds0, p0, q0, hargs, rfl, rfl, h0, r0⟩ := trodAll_cons hA
  obtain ⟨v1, vs1, d1, ds1, p1, q1, rfl, rfl, rfl, h1, r1⟩ := trodAll_cons r0
  obtain ⟨rfl, rfl, rfl⟩ := trodAll_nil r1
  obtain rfl : args = #[v0, v1] := by cases args; simp_all
  obtain ⟨rfl, rfl⟩ := trodVars_none hV
  clear hA0 hval0
  have hpost : ∀ W1, Below W.heap.size W W1 → Rows.fnExactSameBookSpec.post enc Try.prog Try.f10 false true false false W #[v0, v1] (.bool true) W1 :=
    fun W1 hb => law_post (f := Try.f10) (tb := 4) laidOut readable rfl (by kernel_rfl) Try.underlying4 hW' rfl hb
  obtain ⟨cs0, rfl, hlen0, fu0, x0, hx0⟩ := open_cells 10 Try.underlying66 (by kernel_rfl) (hval 0 66 v0 rfl rfl) h0
  obtain ⟨c0_0, c0_1, c0_2, c0_3, c0_4, c0_5, c0_6, c0_7, c0_8, c0_9, rfl⟩ := list10 hlen0
  obtain ⟨nR0, yR0, hR0⟩ := nest_field Try.underlying66 hx0 (j := 0) rfl (o := 0) (m := 9) rfl (by kernel_rfl)
  obtain ⟨n0_0, yy0_0, y0_0⟩ := nest_field Try.underlying23 hR0 (j := 0) rfl (o := 0) (m := 1) rfl (by kernel_rfl)
  obtain ⟨a0_0, e0_0, wa0_0⟩ := leaf_int (c := c0_0) Try.underlying2 y0_0
  subst e0_0
  obtain ⟨n0_1, yy0_1, y0_1⟩ := nest_field Try.underlying23 hR0 (j := 1) rfl (o := 1) (m := 1) rfl (by kernel_rfl)
  obtain ⟨a0_1, e0_1, wa0_1⟩ := leaf_int (c := c0_1) Try.underlying2 y0_1
  subst e0_1
  obtain ⟨n0_2, yy0_2, y0_2⟩ := nest_field Try.underlying23 hR0 (j := 2) rfl (o := 2) (m := 1) rfl (by kernel_rfl)
  obtain ⟨a0_2, e0_2⟩ := leaf_bool (c := c0_2) Try.underlying4 y0_2
  subst e0_2
  obtain ⟨n0_3, yy0_3, y0_3⟩ := nest_field Try.underlying23 hR0 (j := 3) rfl (o := 3) (m := 1) rfl (by kernel_rfl)
  obtain ⟨a0_3, e0_3⟩ := leaf_bool (c := c0_3) Try.underlying4 y0_3
  subst e0_3
  obtain ⟨n0_4, yy0_4, y0_4⟩ := nest_field Try.underlying23 hR0 (j := 4) rfl (o := 4) (m := 1) rfl (by kernel_rfl)
  obtain ⟨a0_4, e0_4⟩ := leaf_bool (c := c0_4) Try.underlying4 y0_4
  subst e0_4
  obtain ⟨n0_5, yy0_5, y0_5⟩ := nest_field Try.underlying23 hR0 (j := 5) rfl (o := 5) (m := 1) rfl (by kernel_rfl)
  obtain ⟨a0_5, e0_5⟩ := leaf_bool (c := c0_5) Try.underlying4 y0_5
  subst e0_5
  obtain ⟨n0_6, yy0_6, y0_6⟩ := nest_field Try.underlying23 hR0 (j := 6) rfl (o := 6) (m := 1) rfl (by kernel_rfl)
  obtain ⟨a0_6, e0_6⟩ := leaf_bool (c := c0_6) Try.underlying4 y0_6
  subst e0_6
  obtain ⟨n0_7, yy0_7, y0_7⟩ := nest_field Try.underlying23 hR0 (j := 7) rfl (o := 7) (m := 1) rfl (by kernel_rfl)
  obtain ⟨a0_7, e0_7, wa0_7⟩ := leaf_int (c := c0_7) Try.underlying2 y0_7
  subst e0_7
  obtain ⟨n0_8, yy0_8, y0_8⟩ := nest_field Try.underlying23 hR0 (j := 8) rfl (o := 8) (m := 1) rfl (by kernel_rfl)
  obtain ⟨a0_8, e0_8, wa0_8⟩ := leaf_int (c := c0_8) Try.underlying2 y0_8
  subst e0_8
  obtain ⟨n0_9, yy0_9, y0_9⟩ := nest_field Try.underlying66 hx0 (j := 1) rfl (o := 9) (m := 1) rfl (by kernel_rfl)
  obtain ⟨A0_9, m0_9, k0_9, xs0_9, e0_9, hnc0_9, hcm0_9, hs0_9, he0_9⟩ := leaf_row (v := c0_9) Try.underlying64 (by kernel_rfl : Try.prog.cellsOf 121 = 2) (by omega) y0_9
  subst e0_9
  obtain ⟨ss0_9, hp0_9⟩ := rows_ents hs0_9 he0_9
  obtain ⟨cs1, rfl, hlen1, fu1, x1, hx1⟩ := open_cells 10 Try.underlying66 (by kernel_rfl) (hval 1 66 v1 rfl rfl) h1
  obtain ⟨c1_0, c1_1, c1_2, c1_3, c1_4, c1_5, c1_6, c1_7, c1_8, c1_9, rfl⟩ := list10 hlen1
  obtain ⟨nR1, yR1, hR1⟩ := nest_field Try.underlying66 hx1 (j := 0) rfl (o := 0) (m := 9) rfl (by kernel_rfl)
  obtain ⟨n1_0, yy1_0, y1_0⟩ := nest_field Try.underlying23 hR1 (j := 0) rfl (o := 0) (m := 1) rfl (by kernel_rfl)
  obtain ⟨a1_0, e1_0, wa1_0⟩ := leaf_int (c := c1_0) Try.underlying2 y1_0
  subst e1_0
  obtain ⟨n1_1, yy1_1, y1_1⟩ := nest_field Try.underlying23 hR1 (j := 1) rfl (o := 1) (m := 1) rfl (by kernel_rfl)
  obtain ⟨a1_1, e1_1, wa1_1⟩ := leaf_int (c := c1_1) Try.underlying2 y1_1
  subst e1_1
  obtain ⟨n1_2, yy1_2, y1_2⟩ := nest_field Try.underlying23 hR1 (j := 2) rfl (o := 2) (m := 1) rfl (by kernel_rfl)
  obtain ⟨a1_2, e1_2⟩ := leaf_bool (c := c1_2) Try.underlying4 y1_2
  subst e1_2
  obtain ⟨n1_3, yy1_3, y1_3⟩ := nest_field Try.underlying23 hR1 (j := 3) rfl (o := 3) (m := 1) rfl (by kernel_rfl)
  obtain ⟨a1_3, e1_3⟩ := leaf_bool (c := c1_3) Try.underlying4 y1_3
  subst e1_3
  obtain ⟨n1_4, yy1_4, y1_4⟩ := nest_field Try.underlying23 hR1 (j := 4) rfl (o := 4) (m := 1) rfl (by kernel_rfl)
  obtain ⟨a1_4, e1_4⟩ := leaf_bool (c := c1_4) Try.underlying4 y1_4
  subst e1_4
  obtain ⟨n1_5, yy1_5, y1_5⟩ := nest_field Try.underlying23 hR1 (j := 5) rfl (o := 5) (m := 1) rfl (by kernel_rfl)
  obtain ⟨a1_5, e1_5⟩ := leaf_bool (c := c1_5) Try.underlying4 y1_5
  subst e1_5
  obtain ⟨n1_6, yy1_6, y1_6⟩ := nest_field Try.underlying23 hR1 (j := 6) rfl (o := 6) (m := 1) rfl (by kernel_rfl)
  obtain ⟨a1_6, e1_6⟩ := leaf_bool (c := c1_6) Try.underlying4 y1_6
  subst e1_6
  obtain ⟨n1_7, yy1_7, y1_7⟩ := nest_field Try.underlying23 hR1 (j := 7) rfl (o := 7) (m := 1) rfl (by kernel_rfl)
  obtain ⟨a1_7, e1_7, wa1_7⟩ := leaf_int (c := c1_7) Try.underlying2 y1_7
  subst e1_7
  obtain ⟨n1_8, yy1_8, y1_8⟩ := nest_field Try.underlying23 hR1 (j := 8) rfl (o := 8) (m := 1) rfl (by kernel_rfl)
  obtain ⟨a1_8, e1_8, wa1_8⟩ := leaf_int (c := c1_8) Try.underlying2 y1_8
  subst e1_8
  obtain ⟨n1_9, yy1_9, y1_9⟩ := nest_field Try.underlying66 hx1 (j := 1) rfl (o := 9) (m := 1) rfl (by kernel_rfl)
  obtain ⟨A1_9, m1_9, k1_9, xs1_9, e1_9, hnc1_9, hcm1_9, hs1_9, he1_9⟩ := leaf_row (v := c1_9) Try.underlying64 (by kernel_rfl : Try.prog.cellsOf 121 = 2) (by omega) y1_9
  subst e1_9
  obtain ⟨ss1_9, hp1_9⟩ := rows_ents hs1_9 he1_9
  refine (fnExactSameBook_walk _ ⟨⟨a0_0, a0_1, a0_2, a0_3, a0_4, a0_5, a0_6, a0_7, a0_8⟩, ss0_9⟩ _ ⟨⟨a1_0, a1_1, a1_2, a1_3, a1_4, a1_5, a1_6, a1_7, a1_8⟩, ss1_9⟩ W ⟨_, _, _, rfl, hp0_9, Nat.le_trans hnc0_9 hcm0_9⟩ ⟨_, _, _, rfl, hp1_9, Nat.le_trans hnc1_9 hcm1_9⟩).mono fun e W1 ⟨he, hb⟩ => ?_
  subst he
  exact ⟨_, rfl, hpost W1 hb⟩
theorem over : Rows.fnExactSameBookRow.holds Try.pinned (OpenSpec.ofChange Rows.fnExactSameBookSpec) :=
  OpenClaim.holds_of_wide 10 Try.f10 rfl rfl rfl rfl rfl rfl rfl ⟨rfl, rfl, rfl, rfl, rfl⟩ rfl rfl rfl rfl rfl (by kernel_rfl) Try.func10 (by kernel_rfl)
    (of_decide_eq_true (by kernel_rfl)) (by unfold Func.isWrapper; first | (rw [if_pos (by decide +kernel)]; kernel_rfl) | (rw [if_neg (by decide +kernel)]; exact ⟨rfl, rfl⟩))
    (fun os started H enc _ => lifted os started H enc)
theorem proved : Rows.FnExactSameBookSaid := over
#print axioms proved
end Go.Proofs.Ytpcenpedbdenmaa.fnExactSameBook
