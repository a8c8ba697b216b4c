/- FnExactTiedWith: for every input the call returns true and each argument reads afterwards as it read before. Conditions: none beyond the row's own. -/
import Derived.Test.YtencndbckjejaaaStand10
import Derived.Test.YtencndbckjejaaaSl
import Derived.Test.YtencndbckjejaaaRows
namespace Go.Proofs.Ytencndbckjejaaa.fnExactTiedWith
open Go.ChangeShapes Go.WideShapes Go.ChangeAt Go.RowKit
set_option linter.unusedVariables false
theorem own : ownKnob Try.prog.godebug = none := by kernel_rfl
theorem laidOut : laidOutB Try.prog = true := by kernel_rfl
theorem readable : Try.f8.params.toList.all (fun t => Try.prog.readableRec t && decide (t < Try.prog.types.size)) = true := by kernel_rfl
set_option maxRecDepth 100000 in
theorem lifted (os : Os) (started : os.Started) (H : Type) (enc : TypeId × Value → H) :
    ReturnsInHanded {} Try.checked os 8 .any (Rows.fnExactTiedWithSpec.pre6 enc Try.prog Try.f8 Rows.fnExactTiedWithRow.domain false) (Rows.fnExactTiedWithSpec.post enc Try.prog Try.f8 false true false false) := by
  refine returnsInHanded_of_change (C := Try.checked) own started (by kernel_rfl) Try.func8
    (ChangeSpec.witness6 (enc := enc) (C := Try.checked) false ⟨#[], #[.int .i64 0, .slice none 0 0, .int .i64 0], []⟩ 8 (by kernel_rfl) (by kernel_rfl) (by kernel_rfl) (by kernel_rfl)) ?_
  intro W base args ds gs before hval0 hW hcnd _
  have hval : ∀ (j : Nat) t v, Try.f8.params[j]? = some t → args[j]? = some v → Value.okWide Try.prog W .any base t v := hval0
  have hW' := hW
  obtain ⟨p, q, hA0, hV, hpq, hfz, hnd⟩ := hW
  have hA : DataW.TrodAll enc Try.prog W 0 (fun _ => true) true Try.f8.params.toList args.toList ds p := hA0
  rw [Try.params8] at hA hval
  obtain ⟨v0, vs0, d0, ds0, p0, q0, hargs, rfl, rfl, h0, r0⟩ := trodAll_cons hA
  obtain ⟨v1, vs1, d1, ds1, p1, q1, rfl, rfl, rfl, h1, r1⟩ := trodAll_cons r0
  obtain ⟨v2, vs2, d2, ds2, p2, q2, rfl, rfl, rfl, h2, r2⟩ := trodAll_cons r1
  obtain ⟨rfl, rfl, rfl⟩ := trodAll_nil r2
  obtain rfl : args = #[v0, v1, v2] := by cases args; simp_all
  obtain ⟨rfl, rfl⟩ := trodVars_none hV
  clear hA0 hval0
  have hpost : ∀ W1, Below W.heap.size W W1 → Rows.fnExactTiedWithSpec.post enc Try.prog Try.f8 false true false false W #[v0, v1, v2] (.bool true) W1 :=
    fun W1 hb => law_post (f := Try.f8) (tb := 4) laidOut readable rfl (by kernel_rfl) Try.underlying4 hW' rfl hb
  obtain ⟨a0, rfl, rfl, rfl, wa0⟩ := open_int Try.underlying2 (hval 0 2 v0 rfl rfl) h0
  obtain ⟨A1, n1, c1, xs1, rfl, hnc1, hcm1, hs1, he1⟩ := open_row Try.underlying22 (by kernel_rfl : Try.prog.cellsOf 56 = 4) (by omega) (hval 1 22 v1 rfl rfl) h1
  have ht1 : TypMatch xs1 n1 := by
    intro k hk
    obtain ⟨c0, _, _, e0, y0⟩ := row_cell (j := 0) Try.underlying56 (by kernel_rfl) rfl hs1.1 he1 hk rfl
    obtain ⟨b0, rfl, _⟩ := leaf_int Try.underlying2 y0
    obtain ⟨c1, _, _, e1, y1⟩ := row_cell (j := 1) Try.underlying56 (by kernel_rfl) rfl hs1.1 he1 hk rfl
    obtain ⟨b1, rfl, _⟩ := leaf_int Try.underlying2 y1
    obtain ⟨c2, _, _, e2, y2⟩ := row_cell (j := 2) Try.underlying56 (by kernel_rfl) rfl hs1.1 he1 hk rfl
    obtain ⟨b2, rfl, _⟩ := leaf_int Try.underlying2 y2
    obtain ⟨c3, _, _, e3, y3⟩ := row_cell (j := 3) Try.underlying56 (by kernel_rfl) rfl hs1.1 he1 hk rfl
    obtain ⟨b3, rfl⟩ := leaf_bool Try.underlying4 y3
    exact ⟨_, _, _, _, e0, e1, e2, e3⟩
  obtain ⟨a2, rfl, rfl, rfl, wa2⟩ := open_int Try.underlying2 (hval 2 2 v2 rfl rfl) h2
  refine (td_walk a0 A1 n1 c1 xs1 a2 W hs1 (Nat.le_trans hnc1 hcm1) ht1).mono fun e W1 ⟨he, hb⟩ => ?_
  subst he
  exact ⟨_, rfl, hpost W1 hb⟩
theorem over : Rows.fnExactTiedWithRow.holds Try.pinned (OpenSpec.ofChange Rows.fnExactTiedWithSpec) :=
  OpenClaim.holds_of_wide 8 Try.f8 rfl rfl rfl rfl rfl rfl rfl ⟨rfl, rfl, rfl, rfl, rfl⟩ rfl rfl rfl rfl rfl (by kernel_rfl) Try.func8 (by kernel_rfl)
    (of_decide_eq_true (by kernel_rfl)) (by unfold Func.isWrapper; first | (rw [if_pos (by decide +kernel)]; kernel_rfl) | (rw [if_neg (by decide +kernel)]; exact ⟨rfl, rfl⟩))
    (fun os started H enc _ => lifted os started H enc)
theorem proved : Rows.FnExactTiedWithSaid := over
#print axioms proved
end Go.Proofs.Ytencndbckjejaaa.fnExactTiedWith
