/- FnExactSameBook: the law. No conditions. -/
import Derived.Test.YtpcenpedbdenmaaEnt6
import Derived.Test.YtpcenpedbdenmaaEnt4
import Derived.Test.YtpcenpedbdenmaaKeeps
import Derived.Test.YtpcenpedbdenmaaHeld
namespace Go.Proofs.Ytpcenpedbdenmaa
set_option linter.unusedSimpArgs false
set_option linter.unusedVariables false
open Go.RowKit Go.WideShapes Go.ChangeShapes Go.Deep

set_option maxRecDepth 100000 in
set_option maxHeartbeats 8000000 in
theorem fnExactSameBook_walk (cs0 : List Value) (d0 : BookD) (cs1 : List Value) (d1 : BookD) (w : World) (h0 : XBook w cs0 d0) (h1 : XBook w cs1 d1) : Calls Try.prog 10 #[.agg cs0.toArray, .agg cs1.toArray] w fun e w' => e = .returned (.bool true) ∧ Below w.heap.size w w' := by
  have g0 := h0
  obtain ⟨Aa0, na0, ca0, ea0, sa0, la0⟩ := g0
  subst ea0
  clear sa0 la0
  have g1 := h1
  obtain ⟨Aa1, na1, ca1, ea1, sa1, la1⟩ := g1
  subst ea1
  clear sa1 la1
  by_cases hz0 : (szBook d0 : Int) ≤ 1048576
  case neg =>
    have HK := Lib.hid (((Keeps.nil w).box (g := w.heap.size) (by simp) #[.int .i64 d0.r.p, .int .i64 d0.r.s, .bool d0.r.st, .bool d0.r.sk, .bool d0.r.re, .bool d0.r.fe, .bool d0.r.ag, .int .i64 d0.r.ca, .int .i64 d0.r.sl, .slice Aa0 na0 ca0] 66).box (g := w.heap.size + 1) (by simp) #[.int .i64 d1.r.p, .int .i64 d1.r.s, .bool d1.r.st, .bool d1.r.sk, .bool d1.r.re, .bool d1.r.fe, .bool d1.r.ag, .int .i64 d1.r.ca, .int .i64 d1.r.sl, .slice Aa1 na1 ca1] 66)
    go_enter Try.func10, Try.ntmps10
    go_wp2_with fail
    refine (szBook_gt [.int .i64 d0.r.p, .int .i64 d0.r.s, .bool d0.r.st, .bool d0.r.sk, .bool d0.r.re, .bool d0.r.fe, .bool d0.r.ag, .int .i64 d0.r.ca, .int .i64 d0.r.sl, .slice Aa0 na0 ca0] d0 (1048576) _ (h0.later HK.out.b) (by omega) (by omega) (by omega)).mono ?_
    rintro e w1 ⟨rfl, hb_⟩
    go_wp2_with fail
    go_ret
    exact ⟨rfl, (HK.out.later hb_).b⟩
  case pos =>
    by_cases hz1 : (szBook d1 : Int) ≤ 1048576 - (szBook d0 : Int)
    case neg =>
      have HK := Lib.hid (((Keeps.nil w).box (g := w.heap.size) (by simp) #[.int .i64 d0.r.p, .int .i64 d0.r.s, .bool d0.r.st, .bool d0.r.sk, .bool d0.r.re, .bool d0.r.fe, .bool d0.r.ag, .int .i64 d0.r.ca, .int .i64 d0.r.sl, .slice Aa0 na0 ca0] 66).box (g := w.heap.size + 1) (by simp) #[.int .i64 d1.r.p, .int .i64 d1.r.s, .bool d1.r.st, .bool d1.r.sk, .bool d1.r.re, .bool d1.r.fe, .bool d1.r.ag, .int .i64 d1.r.ca, .int .i64 d1.r.sl, .slice Aa1 na1 ca1] 66)
      go_enter Try.func10, Try.ntmps10
      go_wp2_with fail
      refine (szBook_le [.int .i64 d0.r.p, .int .i64 d0.r.s, .bool d0.r.st, .bool d0.r.sk, .bool d0.r.re, .bool d0.r.fe, .bool d0.r.ag, .int .i64 d0.r.ca, .int .i64 d0.r.sl, .slice Aa0 na0 ca0] d0 (1048576) _ (h0.later HK.out.b) (by omega) (by omega)).mono ?_
      rintro e w1 ⟨rfl, hb_⟩
      replace HK := Lib.hid (HK.out.later hb_)
      clear hb_
      obtain ⟨_, ⟨hl0, hc0⟩, ⟨hl1, hc1⟩, _⟩ := HK.out
      go_wp2_with fail
      refine (szBook_gt [.int .i64 d1.r.p, .int .i64 d1.r.s, .bool d1.r.st, .bool d1.r.sk, .bool d1.r.re, .bool d1.r.fe, .bool d1.r.ag, .int .i64 d1.r.ca, .int .i64 d1.r.sl, .slice Aa1 na1 ca1] d1 (1048576 - (szBook d0 : Int)) _ (h1.later HK.out.b) (by omega) (by omega) (by omega)).mono ?_
      rintro e w1 ⟨rfl, hb_⟩
      go_wp2_with fail
      go_ret
      exact ⟨rfl, (HK.out.later hb_).b⟩
    case pos =>
      obtain ⟨r0, hr0⟩ : ∃ r, fnSameBook_0 d0 d1 = r := ⟨_, rfl⟩
      have hq0 : (r0 != r0) = false := by simp
      have HR0 := Lib.hid hr0
      clear hr0
      have hb0 : szBook d0 ≤ 1048576 := by omega
      have hb1 : szBook d1 ≤ 1048576 := by omega
      have HK := Lib.hid (((Keeps.nil w).box (g := w.heap.size) (by simp) #[.int .i64 d0.r.p, .int .i64 d0.r.s, .bool d0.r.st, .bool d0.r.sk, .bool d0.r.re, .bool d0.r.fe, .bool d0.r.ag, .int .i64 d0.r.ca, .int .i64 d0.r.sl, .slice Aa0 na0 ca0] 66).box (g := w.heap.size + 1) (by simp) #[.int .i64 d1.r.p, .int .i64 d1.r.s, .bool d1.r.st, .bool d1.r.sk, .bool d1.r.re, .bool d1.r.fe, .bool d1.r.ag, .int .i64 d1.r.ca, .int .i64 d1.r.sl, .slice Aa1 na1 ca1] 66)
      go_enter Try.func10, Try.ntmps10
      go_wp2_with fail
      refine (szBook_le [.int .i64 d0.r.p, .int .i64 d0.r.s, .bool d0.r.st, .bool d0.r.sk, .bool d0.r.re, .bool d0.r.fe, .bool d0.r.ag, .int .i64 d0.r.ca, .int .i64 d0.r.sl, .slice Aa0 na0 ca0] d0 (1048576) _ (h0.later HK.out.b) (by omega) (by omega)).mono ?_
      rintro e w1 ⟨rfl, hb_⟩
      replace HK := Lib.hid (HK.out.later hb_)
      clear hb_
      obtain ⟨_, ⟨hl0, hc0⟩, ⟨hl1, hc1⟩, _⟩ := HK.out
      go_wp2_with fail
      refine (szBook_le [.int .i64 d1.r.p, .int .i64 d1.r.s, .bool d1.r.st, .bool d1.r.sk, .bool d1.r.re, .bool d1.r.fe, .bool d1.r.ag, .int .i64 d1.r.ca, .int .i64 d1.r.sl, .slice Aa1 na1 ca1] d1 (1048576 - (szBook d0 : Int)) _ (h1.later HK.out.b) (by omega) (by omega)).mono ?_
      rintro e w1 ⟨rfl, hb_⟩
      clear hl0 hc0 hl1 hc1
      replace HK := Lib.hid (HK.out.later hb_)
      clear hb_
      obtain ⟨_, ⟨hl0, hc0⟩, ⟨hl1, hc1⟩, _⟩ := HK.out
      go_wp2_with fail
      refine wp_region_held_drew (S := (fun W => Keeps w W [(w.heap.size + 1, #[.int .i64 d1.r.p, .int .i64 d1.r.s, .bool d1.r.st, .bool d1.r.sk, .bool d1.r.re, .bool d1.r.fe, .bool d1.r.ag, .int .i64 d1.r.ca, .int .i64 d1.r.sl, .slice Aa1 na1 ca1]), (w.heap.size, #[.int .i64 d0.r.p, .int .i64 d0.r.s, .bool d0.r.st, .bool d0.r.sk, .bool d0.r.re, .bool d0.r.fe, .bool d0.r.ag, .int .i64 d0.r.ca, .int .i64 d0.r.sl, .slice Aa0 na0 ca0])])) (by kernel_rfl) ?_ (fun hHeld => ?_)
      focus ((try dsimp only); (first | (exact hHeld.later hb_) | (exact HK.out.drew) | (exact HK.out)))
      refine H_take (i := 0) (v := ?_) rfl (by kernel_rfl) (by kernel_rfl) (by kernel_rfl) (fun _ _ _ h => h) (by rfl) ?_ (by assumption) ?_
      rotate_left
      focus (intro w hSw; obtain ⟨_, ⟨hl0, hc0⟩, ⟨hl1, hc1⟩, _⟩ := hSw; go_simp; first | done | with_reducible rfl | (trace_state; fail))
      try simp only [Act.put, List.setIfInBounds_toArray, List.set_cons_zero, List.set_cons_succ]
      refine H_take (i := 2) (v := ?_) rfl (by kernel_rfl) (by kernel_rfl) (by kernel_rfl) (fun _ _ _ h => h) (by rfl) ?_ (by assumption) ?_
      rotate_left
      focus (intro w hSw; obtain ⟨_, ⟨hl0, hc0⟩, ⟨hl1, hc1⟩, _⟩ := hSw; go_simp; first | done | with_reducible rfl | (trace_state; fail))
      try simp only [Act.put, List.setIfInBounds_toArray, List.set_cons_zero, List.set_cons_succ]
      refine H_call (i := 1) rfl (by kernel_rfl) (fun K hK => ?_)
      go_simp
      (go_at_call 39; (with_reducible refine Calls.mono (toBook_x [.int .i64 d0.r.p, .int .i64 d0.r.s, .bool d0.r.st, .bool d0.r.sk, .bool d0.r.re, .bool d0.r.fe, .bool d0.r.ag, .int .i64 d0.r.ca, .int .i64 d0.r.sl, .slice Aa0 na0 ca0] d0 _ ?_ hb0) ?_); (exact h0.later hHeld.b); rintro e v0 ⟨t0, rfl, x0, hb_⟩; have xk0 := Lib.hid x0; clear x0)
      refine hK.out _ _ ?_ (fun hHeld => ?_)
      focus ((try dsimp only); (first | (exact hHeld.later hb_) | (exact HK.out.drew) | (exact HK.out)))
      clear hK K
      try simp only [Act.put, List.setIfInBounds_toArray, List.set_cons_zero, List.set_cons_succ]
      refine H_call (i := 3) rfl (by kernel_rfl) (fun K hK => ?_)
      go_simp
      (go_at_call 39; (with_reducible refine Calls.mono (toBook_x [.int .i64 d1.r.p, .int .i64 d1.r.s, .bool d1.r.st, .bool d1.r.sk, .bool d1.r.re, .bool d1.r.fe, .bool d1.r.ag, .int .i64 d1.r.ca, .int .i64 d1.r.sl, .slice Aa1 na1 ca1] d1 _ ?_ hb1) ?_); (exact h1.later hHeld.b); rintro e v1 ⟨t1, rfl, x1, hb_⟩; have xk1 := Lib.hid x1; clear x1; have xk0 := Lib.hid (xk0.out.later hb_))
      refine hK.out _ _ ?_ (fun hHeld => ?_)
      focus ((try dsimp only); (first | (exact hHeld.later hb_) | (exact HK.out.drew) | (exact HK.out)))
      clear hK K
      try simp only [Act.put, List.setIfInBounds_toArray, List.set_cons_zero, List.set_cons_succ]
      refine H_call (i := 4) rfl (by kernel_rfl) (fun K hK => ?_)
      go_simp
      (go_at_call 38; (with_reducible refine Calls.mono (sSameBook_x t0 d0 t1 d1 _ xk0.out xk1.out hb0 hb1) ?_); rw [HR0.out]; rintro e v9 ⟨rfl, hb_⟩)
      refine hK.out _ _ ?_ (fun hHeld => ?_)
      focus ((try dsimp only); (first | (exact hHeld.later hb_) | (exact HK.out.drew) | (exact HK.out)))
      clear hK K
      try simp only [Act.put, List.setIfInBounds_toArray, List.set_cons_zero, List.set_cons_succ]
      refine H_take (i := 5) (v := ?_) rfl (by kernel_rfl) (by kernel_rfl) (by kernel_rfl) (fun _ _ _ h => h) (by rfl) ?_ (by assumption) ?_
      rotate_left
      focus (intro w hSw; obtain ⟨_, ⟨hl0, hc0⟩, ⟨hl1, hc1⟩, _⟩ := hSw; go_simp; first | done | with_reducible rfl | (trace_state; fail))
      try simp only [Act.put, List.setIfInBounds_toArray, List.set_cons_zero, List.set_cons_succ]
      refine wpAnyH_done (by kernel_rfl) ?_ _
      clear hl0 hc0 hl1 hc1
      replace HK := Lib.hid hHeld
      clear hHeld
      obtain ⟨_, ⟨hl0, hc0⟩, ⟨hl1, hc1⟩, _⟩ := HK.out
      go_wp2_with fail
      refine (toBook_x [.int .i64 d0.r.p, .int .i64 d0.r.s, .bool d0.r.st, .bool d0.r.sk, .bool d0.r.re, .bool d0.r.fe, .bool d0.r.ag, .int .i64 d0.r.ca, .int .i64 d0.r.sl, .slice Aa0 na0 ca0] d0 _ (h0.later HK.out.b) hb0).mono ?_
      rintro e v0 ⟨y0, rfl, x0, hb_⟩
      clear hl0 hc0 hl1 hc1
      replace HK := Lib.hid (HK.out.later hb_)
      clear hb_
      have gx := x0
      obtain ⟨Ax0, nx0, cx0, ex0, sx0, lx0⟩ := gx
      subst ex0
      clear sx0 lx0
      have HX0 := Lib.hid (x0.boxed (.cells #[.int .i64 d0.r.p, .int .i64 d0.r.s, .bool d0.r.st, .bool d0.r.sk, .bool d0.r.re, .bool d0.r.fe, .bool d0.r.ag, .int .i64 d0.r.ca, .int .i64 d0.r.sl, .slice Ax0 nx0 cx0] 58))
      clear x0
      have hkk := HK.out
      obtain ⟨_, ⟨hl0, hc0⟩, ⟨hl1, hc1⟩, _⟩ := hkk
      replace HK := Lib.hid (HK.out.box (g := v0.heap.size) rfl #[.int .i64 d0.r.p, .int .i64 d0.r.s, .bool d0.r.st, .bool d0.r.sk, .bool d0.r.re, .bool d0.r.fe, .bool d0.r.ag, .int .i64 d0.r.ca, .int .i64 d0.r.sl, .slice Ax0 nx0 cx0] 58)
      go_wp2_with fail
      refine (toBook_x [.int .i64 d1.r.p, .int .i64 d1.r.s, .bool d1.r.st, .bool d1.r.sk, .bool d1.r.re, .bool d1.r.fe, .bool d1.r.ag, .int .i64 d1.r.ca, .int .i64 d1.r.sl, .slice Aa1 na1 ca1] d1 _ (h1.later HK.out.b) hb1).mono ?_
      rintro e v1 ⟨y1, rfl, x1, hb_⟩
      clear hl0 hc0 hl1 hc1
      replace HK := Lib.hid (HK.out.later hb_)
      replace HX0 := Lib.hid (HX0.out.later hb_)
      clear hb_
      have gx := x1
      obtain ⟨Ax1, nx1, cx1, ex1, sx1, lx1⟩ := gx
      subst ex1
      clear sx1 lx1
      replace HX0 := Lib.hid (HX0.out.boxed (.cells #[.int .i64 d1.r.p, .int .i64 d1.r.s, .bool d1.r.st, .bool d1.r.sk, .bool d1.r.re, .bool d1.r.fe, .bool d1.r.ag, .int .i64 d1.r.ca, .int .i64 d1.r.sl, .slice Ax1 nx1 cx1] 58))
      have HX1 := Lib.hid (x1.boxed (.cells #[.int .i64 d1.r.p, .int .i64 d1.r.s, .bool d1.r.st, .bool d1.r.sk, .bool d1.r.re, .bool d1.r.fe, .bool d1.r.ag, .int .i64 d1.r.ca, .int .i64 d1.r.sl, .slice Ax1 nx1 cx1] 58))
      clear x1
      have hkk := HK.out
      obtain ⟨_, ⟨hl0, hc0⟩, ⟨hl1, hc1⟩, ⟨hl2, hc2⟩, _⟩ := hkk
      replace HK := Lib.hid (HK.out.box (g := v1.heap.size) rfl #[.int .i64 d1.r.p, .int .i64 d1.r.s, .bool d1.r.st, .bool d1.r.sk, .bool d1.r.re, .bool d1.r.fe, .bool d1.r.ag, .int .i64 d1.r.ca, .int .i64 d1.r.sl, .slice Ax1 nx1 cx1] 58)
      go_wp2_with fail
      refine (SameBook_x [.int .i64 d0.r.p, .int .i64 d0.r.s, .bool d0.r.st, .bool d0.r.sk, .bool d0.r.re, .bool d0.r.fe, .bool d0.r.ag, .int .i64 d0.r.ca, .int .i64 d0.r.sl, .slice Ax0 nx0 cx0] d0 [.int .i64 d1.r.p, .int .i64 d1.r.s, .bool d1.r.st, .bool d1.r.sk, .bool d1.r.re, .bool d1.r.fe, .bool d1.r.ag, .int .i64 d1.r.ca, .int .i64 d1.r.sl, .slice Ax1 nx1 cx1] d1 _ HX0.out HX1.out hb0 hb1).mono ?_
      rw [HR0.out]
      rintro e w1 ⟨rfl, hb_⟩
      clear hl0 hc0 hl1 hc1 hl2 hc2
      replace HK := Lib.hid (HK.out.later hb_)
      replace HX0 := Lib.hid (HX0.out.later hb_)
      replace HX1 := Lib.hid (HX1.out.later hb_)
      clear hb_
      obtain ⟨_, ⟨hl0, hc0⟩, ⟨hl1, hc1⟩, ⟨hl2, hc2⟩, ⟨hl3, hc3⟩, _⟩ := HK.out
      go_wp2_with fail
      refine wp_region_held_drew (S := (fun W => Keeps w W [(v1.heap.size, #[.int .i64 d1.r.p, .int .i64 d1.r.s, .bool d1.r.st, .bool d1.r.sk, .bool d1.r.re, .bool d1.r.fe, .bool d1.r.ag, .int .i64 d1.r.ca, .int .i64 d1.r.sl, .slice Ax1 nx1 cx1]), (v0.heap.size, #[.int .i64 d0.r.p, .int .i64 d0.r.s, .bool d0.r.st, .bool d0.r.sk, .bool d0.r.re, .bool d0.r.fe, .bool d0.r.ag, .int .i64 d0.r.ca, .int .i64 d0.r.sl, .slice Ax0 nx0 cx0]), (w.heap.size + 1, #[.int .i64 d1.r.p, .int .i64 d1.r.s, .bool d1.r.st, .bool d1.r.sk, .bool d1.r.re, .bool d1.r.fe, .bool d1.r.ag, .int .i64 d1.r.ca, .int .i64 d1.r.sl, .slice Aa1 na1 ca1]), (w.heap.size, #[.int .i64 d0.r.p, .int .i64 d0.r.s, .bool d0.r.st, .bool d0.r.sk, .bool d0.r.re, .bool d0.r.fe, .bool d0.r.ag, .int .i64 d0.r.ca, .int .i64 d0.r.sl, .slice Aa0 na0 ca0])] ∧ XBook W [.int .i64 d0.r.p, .int .i64 d0.r.s, .bool d0.r.st, .bool d0.r.sk, .bool d0.r.re, .bool d0.r.fe, .bool d0.r.ag, .int .i64 d0.r.ca, .int .i64 d0.r.sl, .slice Ax0 nx0 cx0] d0 ∧ XBook W [.int .i64 d1.r.p, .int .i64 d1.r.s, .bool d1.r.st, .bool d1.r.sk, .bool d1.r.re, .bool d1.r.fe, .bool d1.r.ag, .int .i64 d1.r.ca, .int .i64 d1.r.sl, .slice Ax1 nx1 cx1] d1)) (by kernel_rfl) ?_ (fun hHeld => ?_)
      focus ((try dsimp only); (first | (exact ⟨hHeld.1.later hb_, hHeld.2.1.later hb_, hHeld.2.2.later hb_⟩) | (exact ⟨HK.out.drew, HX0.out.drew, HX1.out.drew⟩) | (exact ⟨HK.out, HX0.out, HX1.out⟩)))
      refine H_take (i := 0) (v := ?_) rfl (by kernel_rfl) (by kernel_rfl) (by kernel_rfl) (fun _ _ _ h => h) (by rfl) ?_ (by assumption) ?_
      rotate_left
      focus (intro w hSw; obtain ⟨⟨_, ⟨hl0, hc0⟩, ⟨hl1, hc1⟩, ⟨hl2, hc2⟩, ⟨hl3, hc3⟩, _⟩, _⟩ := hSw; go_simp; first | done | with_reducible rfl | (trace_state; fail))
      try simp only [Act.put, List.setIfInBounds_toArray, List.set_cons_zero, List.set_cons_succ]
      refine H_take (i := 1) (v := ?_) rfl (by kernel_rfl) (by kernel_rfl) (by kernel_rfl) (fun _ _ _ h => h) (by rfl) ?_ (by assumption) ?_
      rotate_left
      focus (intro w hSw; obtain ⟨⟨_, ⟨hl0, hc0⟩, ⟨hl1, hc1⟩, ⟨hl2, hc2⟩, ⟨hl3, hc3⟩, _⟩, _⟩ := hSw; go_simp; first | done | with_reducible rfl | (trace_state; fail))
      try simp only [Act.put, List.setIfInBounds_toArray, List.set_cons_zero, List.set_cons_succ]
      refine H_call (i := 2) rfl (by kernel_rfl) (fun K hK => ?_)
      go_simp
      (go_at_call 39; (with_reducible refine Calls.mono (toBook_x [.int .i64 d0.r.p, .int .i64 d0.r.s, .bool d0.r.st, .bool d0.r.sk, .bool d0.r.re, .bool d0.r.fe, .bool d0.r.ag, .int .i64 d0.r.ca, .int .i64 d0.r.sl, .slice Aa0 na0 ca0] d0 _ ?_ hb0) ?_); (exact h0.later hHeld.1.b); rintro e v9 ⟨t9, rfl, x9, hb_⟩; have xk9 := Lib.hid x9; clear x9)
      refine hK.out _ _ ?_ (fun hHeld => ?_)
      focus ((try dsimp only); (first | (exact ⟨hHeld.1.later hb_, hHeld.2.1.later hb_, hHeld.2.2.later hb_⟩) | (exact ⟨HK.out.drew, HX0.out.drew, HX1.out.drew⟩) | (exact ⟨HK.out, HX0.out, HX1.out⟩)))
      clear hK K
      try simp only [Act.put, List.setIfInBounds_toArray, List.set_cons_zero, List.set_cons_succ]
      refine H_call (i := 3) rfl (by kernel_rfl) (fun K hK => ?_)
      go_simp
      (go_at_call 34; (with_reducible refine Calls.mono (eqBook_x [.int .i64 d0.r.p, .int .i64 d0.r.s, .bool d0.r.st, .bool d0.r.sk, .bool d0.r.re, .bool d0.r.fe, .bool d0.r.ag, .int .i64 d0.r.ca, .int .i64 d0.r.sl, .slice Ax0 nx0 cx0] t9 d0 _ ?_ ?_) ?_); (exact hHeld.2.1); (exact xk9.out); rintro e v8 ⟨rfl, hb_⟩)
      refine hK.out _ _ ?_ (fun hHeld => ?_)
      focus ((try dsimp only); (first | (exact ⟨hHeld.1.later hb_, hHeld.2.1.later hb_, hHeld.2.2.later hb_⟩) | (exact ⟨HK.out.drew, HX0.out.drew, HX1.out.drew⟩) | (exact ⟨HK.out, HX0.out, HX1.out⟩)))
      clear hK K
      try simp only [Act.put, List.setIfInBounds_toArray, List.set_cons_zero, List.set_cons_succ]
      refine H_take (i := 4) (v := ?_) rfl (by kernel_rfl) (by kernel_rfl) (by kernel_rfl) (fun _ _ _ h => h) (by rfl) ?_ (by assumption) ?_
      rotate_left
      focus (intro w hSw; obtain ⟨⟨_, ⟨hl0, hc0⟩, ⟨hl1, hc1⟩, ⟨hl2, hc2⟩, ⟨hl3, hc3⟩, _⟩, _⟩ := hSw; go_simp; first | done | with_reducible rfl | (trace_state; fail))
      try simp only [Act.put, List.setIfInBounds_toArray, List.set_cons_zero, List.set_cons_succ]
      refine wpAnyH_done (by kernel_rfl) ?_ _
      clear hl0 hc0 hl1 hc1 hl2 hc2 hl3 hc3
      replace HK := Lib.hid hHeld.1
      replace HX0 := Lib.hid (hHeld.2.1)
      replace HX1 := Lib.hid (hHeld.2.2)
      clear hHeld
      obtain ⟨_, ⟨hl0, hc0⟩, ⟨hl1, hc1⟩, ⟨hl2, hc2⟩, ⟨hl3, hc3⟩, _⟩ := HK.out
      go_wp2_with fail
      refine wp_region_held_drew (S := (fun W => Keeps w W [(v1.heap.size, #[.int .i64 d1.r.p, .int .i64 d1.r.s, .bool d1.r.st, .bool d1.r.sk, .bool d1.r.re, .bool d1.r.fe, .bool d1.r.ag, .int .i64 d1.r.ca, .int .i64 d1.r.sl, .slice Ax1 nx1 cx1]), (v0.heap.size, #[.int .i64 d0.r.p, .int .i64 d0.r.s, .bool d0.r.st, .bool d0.r.sk, .bool d0.r.re, .bool d0.r.fe, .bool d0.r.ag, .int .i64 d0.r.ca, .int .i64 d0.r.sl, .slice Ax0 nx0 cx0]), (w.heap.size + 1, #[.int .i64 d1.r.p, .int .i64 d1.r.s, .bool d1.r.st, .bool d1.r.sk, .bool d1.r.re, .bool d1.r.fe, .bool d1.r.ag, .int .i64 d1.r.ca, .int .i64 d1.r.sl, .slice Aa1 na1 ca1]), (w.heap.size, #[.int .i64 d0.r.p, .int .i64 d0.r.s, .bool d0.r.st, .bool d0.r.sk, .bool d0.r.re, .bool d0.r.fe, .bool d0.r.ag, .int .i64 d0.r.ca, .int .i64 d0.r.sl, .slice Aa0 na0 ca0])] ∧ XBook W [.int .i64 d1.r.p, .int .i64 d1.r.s, .bool d1.r.st, .bool d1.r.sk, .bool d1.r.re, .bool d1.r.fe, .bool d1.r.ag, .int .i64 d1.r.ca, .int .i64 d1.r.sl, .slice Ax1 nx1 cx1] d1)) (by kernel_rfl) ?_ (fun hHeld => ?_)
      focus ((try dsimp only); (first | (exact ⟨hHeld.1.later hb_, hHeld.2.later hb_⟩) | (exact ⟨HK.out.drew, HX1.out.drew⟩) | (exact ⟨HK.out, HX1.out⟩)))
      refine H_take (i := 0) (v := ?_) rfl (by kernel_rfl) (by kernel_rfl) (by kernel_rfl) (fun _ _ _ h => h) (by rfl) ?_ (by assumption) ?_
      rotate_left
      focus (intro w hSw; obtain ⟨⟨_, ⟨hl0, hc0⟩, ⟨hl1, hc1⟩, ⟨hl2, hc2⟩, ⟨hl3, hc3⟩, _⟩, _⟩ := hSw; go_simp; first | done | with_reducible rfl | (trace_state; fail))
      try simp only [Act.put, List.setIfInBounds_toArray, List.set_cons_zero, List.set_cons_succ]
      refine H_take (i := 1) (v := ?_) rfl (by kernel_rfl) (by kernel_rfl) (by kernel_rfl) (fun _ _ _ h => h) (by rfl) ?_ (by assumption) ?_
      rotate_left
      focus (intro w hSw; obtain ⟨⟨_, ⟨hl0, hc0⟩, ⟨hl1, hc1⟩, ⟨hl2, hc2⟩, ⟨hl3, hc3⟩, _⟩, _⟩ := hSw; go_simp; first | done | with_reducible rfl | (trace_state; fail))
      try simp only [Act.put, List.setIfInBounds_toArray, List.set_cons_zero, List.set_cons_succ]
      refine H_call (i := 2) rfl (by kernel_rfl) (fun K hK => ?_)
      go_simp
      (go_at_call 39; (with_reducible refine Calls.mono (toBook_x [.int .i64 d1.r.p, .int .i64 d1.r.s, .bool d1.r.st, .bool d1.r.sk, .bool d1.r.re, .bool d1.r.fe, .bool d1.r.ag, .int .i64 d1.r.ca, .int .i64 d1.r.sl, .slice Aa1 na1 ca1] d1 _ ?_ hb1) ?_); (exact h1.later hHeld.1.b); rintro e v9 ⟨t9, rfl, x9, hb_⟩; have xk9 := Lib.hid x9; clear x9)
      refine hK.out _ _ ?_ (fun hHeld => ?_)
      focus ((try dsimp only); (first | (exact ⟨hHeld.1.later hb_, hHeld.2.later hb_⟩) | (exact ⟨HK.out.drew, HX1.out.drew⟩) | (exact ⟨HK.out, HX1.out⟩)))
      clear hK K
      try simp only [Act.put, List.setIfInBounds_toArray, List.set_cons_zero, List.set_cons_succ]
      refine H_call (i := 3) rfl (by kernel_rfl) (fun K hK => ?_)
      go_simp
      (go_at_call 34; (with_reducible refine Calls.mono (eqBook_x [.int .i64 d1.r.p, .int .i64 d1.r.s, .bool d1.r.st, .bool d1.r.sk, .bool d1.r.re, .bool d1.r.fe, .bool d1.r.ag, .int .i64 d1.r.ca, .int .i64 d1.r.sl, .slice Ax1 nx1 cx1] t9 d1 _ ?_ ?_) ?_); (exact hHeld.2); (exact xk9.out); rintro e v8 ⟨rfl, hb_⟩)
      refine hK.out _ _ ?_ (fun hHeld => ?_)
      focus ((try dsimp only); (first | (exact ⟨hHeld.1.later hb_, hHeld.2.later hb_⟩) | (exact ⟨HK.out.drew, HX1.out.drew⟩) | (exact ⟨HK.out, HX1.out⟩)))
      clear hK K
      try simp only [Act.put, List.setIfInBounds_toArray, List.set_cons_zero, List.set_cons_succ]
      refine H_take (i := 4) (v := ?_) rfl (by kernel_rfl) (by kernel_rfl) (by kernel_rfl) (fun _ _ _ h => h) (by rfl) ?_ (by assumption) ?_
      rotate_left
      focus (intro w hSw; obtain ⟨⟨_, ⟨hl0, hc0⟩, ⟨hl1, hc1⟩, ⟨hl2, hc2⟩, ⟨hl3, hc3⟩, _⟩, _⟩ := hSw; go_simp; first | done | with_reducible rfl | (trace_state; fail))
      try simp only [Act.put, List.setIfInBounds_toArray, List.set_cons_zero, List.set_cons_succ]
      refine wpAnyH_done (by kernel_rfl) ?_ _
      clear hl0 hc0 hl1 hc1 hl2 hc2 hl3 hc3
      have hB := hHeld.1.b
      clear hHeld
      go_wp2_with fail
      go_ret
      exact ⟨rfl, hB⟩
end Go.Proofs.Ytpcenpedbdenmaa
