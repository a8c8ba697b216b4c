/- FnCaptures: for every input the call returns true and each argument reads afterwards as it read before. Conditions: none beyond the row's own. -/
import Derived.Test.YtcfbihponecblaaG24
import Derived.Test.YtcfbihponecblaaG00
import Derived.Test.YtcfbihponecblaaRows
namespace Go.Proofs.Ytcfbihponecblaa.fnCaptures
open Go.ChangeShapes Go.WideShapes Go.ChangeAt Go.RowKit
set_option linter.unusedVariables false
theorem own : ownKnob Try.prog.godebug = none := by kernel_rfl
theorem laidOut : laidOutB Try.prog = true := by kernel_rfl
theorem readable : Try.f3.params.toList.all (fun t => Try.prog.readableRec t && decide (t < Try.prog.types.size)) = true := by kernel_rfl
set_option maxRecDepth 100000 in
theorem lifted (os : Os) (started : os.Started) (H : Type) (enc : TypeId × Value → H) :
    ReturnsInHanded {} Try.checked os 3 .any (Rows.fnCapturesSpec.pre6 enc Try.prog Try.f3 Rows.fnCapturesRow.domain false) (Rows.fnCapturesSpec.post enc Try.prog Try.f3 false true false false) := by
  refine returnsInHanded_of_change (C := Try.checked) own started (by kernel_rfl) Try.func3
    (ChangeSpec.witness6 (enc := enc) (C := Try.checked) false ⟨#[], #[.slice none 0 0], []⟩ 8 (by kernel_rfl) (by kernel_rfl) (by kernel_rfl) (by kernel_rfl)) ?_
  intro W base args ds gs before hval0 hW hcnd _
  have hval : ∀ (j : Nat) t v, Try.f3.params[j]? = some t → args[j]? = some v → Value.okWide Try.prog W .any base t v := hval0
  have hW' := hW
  obtain ⟨p, q, hA0, hV, hpq, hfz, hnd⟩ := hW
  have hA : DataW.TrodAll enc Try.prog W 0 (fun _ => true) true Try.f3.params.toList args.toList ds p := hA0
  rw [Try.params3] at hA hval
  obtain ⟨v0, vs0, d0, ds0, p0, q0, hargs, rfl, rfl, h0, r0⟩ := trodAll_cons hA
  obtain ⟨rfl, rfl, rfl⟩ := trodAll_nil r0
  obtain rfl : args = #[v0] := by cases args; simp_all
  obtain ⟨rfl, rfl⟩ := trodVars_none hV
  clear hA0 hval0
  have hpost : ∀ W1, Below W.heap.size W W1 → Rows.fnCapturesSpec.post enc Try.prog Try.f3 false true false false W #[v0] (.bool true) W1 :=
    fun W1 hb => law_post (f := Try.f3) (tb := 4) laidOut readable rfl (by kernel_rfl) Try.underlying4 hW' rfl hb
  obtain ⟨A0, n0, c0, xs0, rfl, hnc0, hcm0, hs0, he0⟩ := open_row Try.underlying22 (by kernel_rfl : Try.prog.cellsOf 5 = 1) (by omega) (hval 0 22 v0 rfl rfl) h0
  obtain ⟨zs0, rfl, hz0⟩ := row_ints Try.underlying5 hs0.1 he0
  refine (fnCaptures_walk A0 n0 c0 zs0 W hs0 (Nat.le_trans hnc0 hcm0) (fun z hz => wf_bounds_u8 (hz0 z hz))).mono fun e W1 ⟨he, hb⟩ => ?_
  subst he
  exact ⟨_, rfl, hpost W1 hb⟩
theorem over : Rows.fnCapturesRow.holds Try.pinned (OpenSpec.ofChange Rows.fnCapturesSpec) :=
  OpenClaim.holds_of_wide 3 Try.f3 rfl rfl rfl rfl rfl rfl rfl ⟨rfl, rfl, rfl, rfl, rfl⟩ rfl rfl rfl rfl rfl (by kernel_rfl) Try.func3 (by kernel_rfl)
    (of_decide_eq_true (by kernel_rfl)) (by unfold Func.isWrapper; first | (rw [if_pos (by decide +kernel)]; kernel_rfl) | (rw [if_neg (by decide +kernel)]; exact ⟨rfl, rfl⟩))
    (fun os started H enc _ => lifted os started H enc)
theorem proved : Rows.FnCapturesSaid := over
#print axioms proved
end Go.Proofs.Ytcfbihponecblaa.fnCaptures
