/- FnExactFilledSlots: the law. No conditions. -/
import Derived.Test.YtpcenpedbdenmaaMemF
import Derived.Test.YtpcenpedbdenmaaKeeps
namespace Go.Proofs.Ytpcenpedbdenmaa
set_option linter.unusedSimpArgs false
set_option linter.unusedVariables false
open Go.RowKit Go.WideShapes Go.ChangeShapes Go.Deep

set_option maxRecDepth 100000 in
set_option maxHeartbeats 8000000 in
theorem fnExactFilledSlots_walk (cs0 : List Value) (d0 : MemoryD) (w : World) (h0 : XMemory w cs0 d0) : Calls Try.prog 6 #[.agg cs0.toArray] w fun e w' => e = .returned (.bool true) ∧ Below w.heap.size w w' := by
  have g0 := h0
  obtain ⟨Aa0, na0, ca0, ea0, sa0, la0⟩ := g0
  subst ea0
  clear sa0 la0
  by_cases hz0 : (szMemory d0 : Int) ≤ 1048576
  case neg =>
    have HK := Lib.hid ((Keeps.nil w).box (g := w.heap.size) (by simp) #[.int .i64 d0.r.p, .int .i64 d0.r.s, .bool d0.r.st, .bool d0.r.sk, .bool d0.r.re, .bool d0.r.fe, .bool d0.r.ag, .int .i64 d0.r.ca, .int .i64 d0.r.sl, .slice Aa0 na0 ca0] 36)
    go_enter Try.func6, Try.ntmps6
    go_wp2_with fail
    refine (szMemory_gt [.int .i64 d0.r.p, .int .i64 d0.r.s, .bool d0.r.st, .bool d0.r.sk, .bool d0.r.re, .bool d0.r.fe, .bool d0.r.ag, .int .i64 d0.r.ca, .int .i64 d0.r.sl, .slice Aa0 na0 ca0] d0 (1048576) _ (h0.later HK.out.b) (by omega) (by omega) (by omega)).mono ?_
    rintro e w1 ⟨rfl, hb_⟩
    go_wp2_with fail
    go_ret
    exact ⟨rfl, (HK.out.later hb_).b⟩
  case pos =>
    obtain ⟨r0, hr0⟩ : ∃ r, fnFilledSlots_0 d0 = r := ⟨_, rfl⟩
    have HR0 := Lib.hid hr0
    clear hr0
    obtain ⟨r1, hr1⟩ : ∃ r, fnFilledSlots_1 d0 = r := ⟨_, rfl⟩
    have HR1 := Lib.hid hr1
    clear hr1
    have hb0 : szMemory d0 ≤ 1048576 := by omega
    have HK := Lib.hid ((Keeps.nil w).box (g := w.heap.size) (by simp) #[.int .i64 d0.r.p, .int .i64 d0.r.s, .bool d0.r.st, .bool d0.r.sk, .bool d0.r.re, .bool d0.r.fe, .bool d0.r.ag, .int .i64 d0.r.ca, .int .i64 d0.r.sl, .slice Aa0 na0 ca0] 36)
    go_enter Try.func6, Try.ntmps6
    go_wp2_with fail
    refine (szMemory_le [.int .i64 d0.r.p, .int .i64 d0.r.s, .bool d0.r.st, .bool d0.r.sk, .bool d0.r.re, .bool d0.r.fe, .bool d0.r.ag, .int .i64 d0.r.ca, .int .i64 d0.r.sl, .slice Aa0 na0 ca0] d0 (1048576) _ (h0.later HK.out.b) (by omega) (by omega)).mono ?_
    rintro e w1 ⟨rfl, hb_⟩
    replace HK := Lib.hid (HK.out.later hb_)
    clear hb_
    obtain ⟨_, ⟨hl0, hc0⟩, _⟩ := HK.out
    go_wp2_with fail
    refine (toMemory_x [.int .i64 d0.r.p, .int .i64 d0.r.s, .bool d0.r.st, .bool d0.r.sk, .bool d0.r.re, .bool d0.r.fe, .bool d0.r.ag, .int .i64 d0.r.ca, .int .i64 d0.r.sl, .slice Aa0 na0 ca0] d0 _ (h0.later HK.out.b) hb0).mono ?_
    rintro e w1 ⟨tt, rfl, xt, hb_⟩
    clear hl0 hc0
    replace HK := Lib.hid (HK.out.later hb_)
    clear hb_
    obtain ⟨_, ⟨hl0, hc0⟩, _⟩ := HK.out
    have gt := xt
    obtain ⟨Att, ntt, ctt, ett, stt, ltt⟩ := gt
    subst ett
    clear stt ltt
    have HX := Lib.hid xt
    clear xt
    go_wp2_with fail
    refine (sFilledSlots_x [.int .i64 d0.r.p, .int .i64 d0.r.s, .bool d0.r.st, .bool d0.r.sk, .bool d0.r.re, .bool d0.r.fe, .bool d0.r.ag, .int .i64 d0.r.ca, .int .i64 d0.r.sl, .slice Att ntt ctt] d0 _ HX.out hb0).mono ?_
    rw [HR0.out]; rw [HR1.out]
    rintro e w1 ⟨rfl, hb_⟩
    clear hl0 hc0
    replace HK := Lib.hid (HK.out.later hb_)
    clear hb_ HX
    obtain ⟨_, ⟨hl0, hc0⟩, _⟩ := HK.out
    go_wp2_with fail
    refine (toMemory_x [.int .i64 d0.r.p, .int .i64 d0.r.s, .bool d0.r.st, .bool d0.r.sk, .bool d0.r.re, .bool d0.r.fe, .bool d0.r.ag, .int .i64 d0.r.ca, .int .i64 d0.r.sl, .slice Aa0 na0 ca0] d0 _ (h0.later HK.out.b) hb0).mono ?_
    rintro e v0 ⟨y0, rfl, x0, hb_⟩
    clear hl0 hc0
    replace HK := Lib.hid (HK.out.later hb_)
    clear hb_
    have gx := x0
    obtain ⟨Ax0, nx0, cx0, ex0, sx0, lx0⟩ := gx
    subst ex0
    clear sx0 lx0
    have HX0 := Lib.hid (x0.boxed (.cells #[.int .i64 d0.r.p, .int .i64 d0.r.s, .bool d0.r.st, .bool d0.r.sk, .bool d0.r.re, .bool d0.r.fe, .bool d0.r.ag, .int .i64 d0.r.ca, .int .i64 d0.r.sl, .slice Ax0 nx0 cx0] 27))
    clear x0
    have hkk := HK.out
    obtain ⟨_, ⟨hl0, hc0⟩, _⟩ := hkk
    replace HK := Lib.hid (HK.out.box (g := v0.heap.size) rfl #[.int .i64 d0.r.p, .int .i64 d0.r.s, .bool d0.r.st, .bool d0.r.sk, .bool d0.r.re, .bool d0.r.fe, .bool d0.r.ag, .int .i64 d0.r.ca, .int .i64 d0.r.sl, .slice Ax0 nx0 cx0] 27)
    go_wp2_with fail
    refine (FilledSlots_x [.int .i64 d0.r.p, .int .i64 d0.r.s, .bool d0.r.st, .bool d0.r.sk, .bool d0.r.re, .bool d0.r.fe, .bool d0.r.ag, .int .i64 d0.r.ca, .int .i64 d0.r.sl, .slice Ax0 nx0 cx0] d0 _ HX0.out hb0).mono ?_
    rw [HR0.out]; rw [HR1.out]
    rintro e w1 ⟨rfl, hb_⟩
    clear hl0 hc0
    replace HK := Lib.hid (HK.out.later hb_)
    replace HX0 := Lib.hid (HX0.out.later hb_)
    clear hb_
    obtain ⟨_, ⟨hl0, hc0⟩, ⟨hl1, hc1⟩, _⟩ := HK.out
    go_wp2_with fail
    refine wp_region_held_drew (S := (fun W => Keeps w W [(v0.heap.size, #[.int .i64 d0.r.p, .int .i64 d0.r.s, .bool d0.r.st, .bool d0.r.sk, .bool d0.r.re, .bool d0.r.fe, .bool d0.r.ag, .int .i64 d0.r.ca, .int .i64 d0.r.sl, .slice Ax0 nx0 cx0]), (w.heap.size, #[.int .i64 d0.r.p, .int .i64 d0.r.s, .bool d0.r.st, .bool d0.r.sk, .bool d0.r.re, .bool d0.r.fe, .bool d0.r.ag, .int .i64 d0.r.ca, .int .i64 d0.r.sl, .slice Aa0 na0 ca0])] ∧ XMemory W [.int .i64 d0.r.p, .int .i64 d0.r.s, .bool d0.r.st, .bool d0.r.sk, .bool d0.r.re, .bool d0.r.fe, .bool d0.r.ag, .int .i64 d0.r.ca, .int .i64 d0.r.sl, .slice Ax0 nx0 cx0] d0)) (by kernel_rfl) ?hS1 (fun hHeld => ?_)
    case hS1 => (try dsimp only); (first | (exact ⟨hHeld.1.later hb_, hHeld.2.later hb_⟩) | (exact ⟨HK.out.drew, HX0.out.drew⟩) | (exact ⟨HK.out, HX0.out⟩))
    refine H_take (i := 0) (v := ?v2) rfl (by kernel_rfl) (by kernel_rfl) (by kernel_rfl) (fun _ _ _ h => h) (by rfl) ?hy2 (by assumption) ?_
    case hy2 => (intro w hSw; obtain ⟨⟨_, ⟨hl0, hc0⟩, ⟨hl1, hc1⟩, _⟩, _⟩ := hSw; go_simp; first | done | with_reducible rfl | (trace_state; fail))
    try simp only [Act.put, List.setIfInBounds_toArray, List.set_cons_zero, List.set_cons_succ]
    refine H_take (i := 1) (v := ?v3) rfl (by kernel_rfl) (by kernel_rfl) (by kernel_rfl) (fun _ _ _ h => h) (by rfl) ?hy3 (by assumption) ?_
    case hy3 => (intro w hSw; obtain ⟨⟨_, ⟨hl0, hc0⟩, ⟨hl1, hc1⟩, _⟩, _⟩ := hSw; go_simp; first | done | with_reducible rfl | (trace_state; fail))
    try simp only [Act.put, List.setIfInBounds_toArray, List.set_cons_zero, List.set_cons_succ]
    refine H_call (i := 2) rfl (by kernel_rfl) (fun K hK => ?_)
    go_simp
    (go_at_call 19; (with_reducible refine Calls.mono (toMemory_x [.int .i64 d0.r.p, .int .i64 d0.r.s, .bool d0.r.st, .bool d0.r.sk, .bool d0.r.re, .bool d0.r.fe, .bool d0.r.ag, .int .i64 d0.r.ca, .int .i64 d0.r.sl, .slice Aa0 na0 ca0] d0 _ ?_ hb0) ?_); (exact h0.later hHeld.1.b); rintro e v9 ⟨t9, rfl, x9, hb_⟩; have xk9 := Lib.hid x9; clear x9)
    refine hK.out _ _ ?hS4 (fun hHeld => ?_)
    case hS4 => (try dsimp only); (first | (exact ⟨hHeld.1.later hb_, hHeld.2.later hb_⟩) | (exact ⟨HK.out.drew, HX0.out.drew⟩) | (exact ⟨HK.out, HX0.out⟩))
    clear hK K
    try simp only [Act.put, List.setIfInBounds_toArray, List.set_cons_zero, List.set_cons_succ]
    refine H_call (i := 3) rfl (by kernel_rfl) (fun K hK => ?_)
    go_simp
    (go_at_call 14; (with_reducible refine Calls.mono (eqMemory_x [.int .i64 d0.r.p, .int .i64 d0.r.s, .bool d0.r.st, .bool d0.r.sk, .bool d0.r.re, .bool d0.r.fe, .bool d0.r.ag, .int .i64 d0.r.ca, .int .i64 d0.r.sl, .slice Ax0 nx0 cx0] t9 d0 _ ?_ ?_) ?_); (exact hHeld.2); (exact xk9.out); rintro e v8 ⟨rfl, hb_⟩)
    refine hK.out _ _ ?hS5 (fun hHeld => ?_)
    case hS5 => (try dsimp only); (first | (exact ⟨hHeld.1.later hb_, hHeld.2.later hb_⟩) | (exact ⟨HK.out.drew, HX0.out.drew⟩) | (exact ⟨HK.out, HX0.out⟩))
    clear hK K
    try simp only [Act.put, List.setIfInBounds_toArray, List.set_cons_zero, List.set_cons_succ]
    refine H_take (i := 4) (v := ?v6) rfl (by kernel_rfl) (by kernel_rfl) (by kernel_rfl) (fun _ _ _ h => h) (by rfl) ?hy6 (by assumption) ?_
    case hy6 => (intro w hSw; obtain ⟨⟨_, ⟨hl0, hc0⟩, ⟨hl1, hc1⟩, _⟩, _⟩ := hSw; go_simp; first | done | with_reducible rfl | (trace_state; fail))
    try simp only [Act.put, List.setIfInBounds_toArray, List.set_cons_zero, List.set_cons_succ]
    refine wpAnyH_done (by kernel_rfl) ?_ _
    clear hl0 hc0 hl1 hc1
    have hB := hHeld.1.b
    clear hHeld
    go_wp2_with fail
    go_ret
    exact ⟨rfl, hB⟩
end Go.Proofs.Ytpcenpedbdenmaa
