/- Lists of numbers compared, as a call that only draws. No conditions beyond lengths. -/
import Derived.Test.YtpcenpedbdenmaaSame
import Derived.Test.YtpcenpedbdenmaaRules
namespace Go.Proofs.Ytpcenpedbdenmaa
set_option linter.unusedSimpArgs false
set_option linter.unusedVariables false
open Go.RowKit

/-- Rules compared field by field. -/
theorem ru_if (a b : Ru) {α : Type} (x y : α) : (if a.p = b.p then if a.s = b.s then if a.st = b.st then if a.sk = b.sk then if a.re = b.re then if a.fe = b.fe then if a.ag = b.ag then if a.ca = b.ca then if a.sl = b.sl then x else y else y else y else y else y else y else y else y else y) = if a.same b then x else y := by
  unfold Ru.same
  by_cases h_p : a.p = b.p
  case neg => simp [h_p]
  rw [if_pos h_p]
  by_cases h_s : a.s = b.s
  case neg => simp [h_s]
  rw [if_pos h_s]
  by_cases h_st : a.st = b.st
  case neg => simp [h_st]
  rw [if_pos h_st]
  by_cases h_sk : a.sk = b.sk
  case neg => simp [h_sk]
  rw [if_pos h_sk]
  by_cases h_re : a.re = b.re
  case neg => simp [h_re]
  rw [if_pos h_re]
  by_cases h_fe : a.fe = b.fe
  case neg => simp [h_fe]
  rw [if_pos h_fe]
  by_cases h_ag : a.ag = b.ag
  case neg => simp [h_ag]
  rw [if_pos h_ag]
  by_cases h_ca : a.ca = b.ca
  case neg => simp [h_ca]
  rw [if_pos h_ca]
  by_cases h_sl : a.sl = b.sl
  case neg => simp [h_sl]
  rw [if_pos h_sl]
  simp [*]
theorem ru_no {a b : Ru} (h : a.same b = false) : ∀ (α : Type) (x y : α), (if a.p = b.p then if a.s = b.s then if a.st = b.st then if a.sk = b.sk then if a.re = b.re then if a.fe = b.fe then if a.ag = b.ag then if a.ca = b.ca then if a.sl = b.sl then x else y else y else y else y else y else y else y else y else y) = y := by
  intro α x y
  rw [ru_if, h]
  rfl
theorem ru_yes {a b : Ru} (h : a.same b = true) : ∀ (α : Type) (x y : α), (if a.p = b.p then if a.s = b.s then if a.st = b.st then if a.sk = b.sk then if a.re = b.re then if a.fe = b.fe then if a.ag = b.ag then if a.ca = b.ca then if a.sl = b.sl then x else y else y else y else y else y else y else y else y else y) = x := by
  intro α x y
  rw [ru_if, h]
  rfl
theorem ru_eq {a b : Ru} (h : a.same b = true) : a = b := by
  obtain ⟨a1, a2, a3, a4, a5, a6, a7, a8, a9⟩ := a
  obtain ⟨b1, b2, b3, b4, b5, b6, b7, b8, b9⟩ := b
  simp only [Ru.same, Bool.and_eq_true, beq_iff_eq] at h
  obtain ⟨⟨⟨⟨⟨⟨⟨⟨rfl, rfl⟩, rfl⟩, rfl⟩, rfl⟩, rfl⟩, rfl⟩, rfl⟩, rfl⟩ := h
  rfl
theorem quiet_many {P : Program} {f : FuncId} {args : Array Value} {w : World} {n : Nat} {v : Value}
    (h : Calls P f args (w.drewN n) fun e w' => e = .returned v ∧ ∃ m, w' = (w.drewN n).drewN m) : Calls P f args (w.drewN n) fun e w'' => e = .returned v ∧ ∃ m, w'' = w.drewN m :=
  h.mono fun _ _ ⟨he, m, hm⟩ => ⟨he, n + m, by rw [hm, World.drewN_drewN]⟩
set_option maxHeartbeats 400000 in
theorem l00Same_quiet (A A' : Option Addr) (n n' c c' : Nat) (zs zs' : List Int) (w : World) (hs : Sl w w.heap.size 1 A n (zs.map (Value.int .i64))) (hs' : Sl w w.heap.size 1 A' n' (zs'.map (Value.int .i64))) (hn : n ≤ 9223372036854775807) (hn' : n' ≤ 9223372036854775807) :
    Calls Try.prog 76 #[.slice A n c, .slice A' n' c'] w fun e w' => e = .returned (.bool (zs == zs')) ∧ ∃ m, w' = w.drewN m := by
  have HL := Lib.hid hs.ints
  have HL' := Lib.hid hs'.ints
  by_cases he : n = n'
  case neg =>
    have hne : (zs == zs') = false := by
      rw [beq_eq_false_iff_ne]
      intro e
      exact he (by rw [← HL.out, ← HL'.out, e])
    have HN := Lib.hid hne
    clear hne
    go_enter Try.func76, Try.ntmps76
    go_wp2
    go_ret
    exact ⟨by rw [HN.out]; rfl, 0, rfl⟩
  case pos =>
    subst he
    go_enter Try.func76, Try.ntmps76
    go_wp2
    go_loopw [5] (fun i wr => ∃ k : Nat, k ≤ n ∧ i = .int .i64 k ∧ Hid (∀ j, j < k → zs.getD j 0 = zs'.getD j 0) ∧ ∃ m, wr = w.drewN m) (fun i _ => n - (intOf i).toNat)
    case atStart => exact ⟨0, Nat.zero_le _, rfl, fun j hj => absurd hj (by omega), 0, rfl⟩
    case round =>
      obtain ⟨k, hk, rfl, hpre, hm⟩ := hrel
      have HW := Lib.hid hm
      have hsr : Sl wr w.heap.size 1 A n (zs.map (Value.int .i64)) := by obtain ⟨m, rfl⟩ := hm; exact hs.drewN m
      have hsr' : Sl wr w.heap.size 1 A' n (zs'.map (Value.int .i64)) := by obtain ⟨m, rfl⟩ := hm; exact hs'.drewN m
      clear hm
      by_cases hlt : k < n
      · obtain ⟨b, off, z, rfl, hb, HZ, hc⟩ := hsr.int hlt
        obtain ⟨b', off', z', rfl, hb', HZ', hc'⟩ := hsr'.int hlt
        by_cases hq : z = z'
        · subst hq
          go_wp2_with fail
          first | (refine wp_region_quiet_lit (by kernel_rfl) (by kernel_rfl) ?_; refine WQ.of ?_; (repeat (refine WQ.step (fun K hK => ?_); go_simp; first | (refine hK _ ?_; clear hK K) | (apply Exists.intro; refine ⟨fun _ => ?_, hK _ ?_⟩; (fail); clear hK K))); refine WQ.nil ?_; intro _ hw'; obtain ⟨nq, hw''⟩ := hw'; subst hw'') | go_quiet (fail)
          go_wp2_with fail
          go_roundw
          case rel =>
            refine ⟨k + 1, by omega, by go_num, fun j hj => ?_, ?_⟩
            · rcases Nat.lt_or_ge j k with h | h
              · exact hpre.out j h
              · obtain rfl : j = k := by omega
                rw [HZ.out, HZ'.out]
            · obtain ⟨m, e⟩ := HW.out; exact ⟨m + _, by rw [e, World.drewN_drewN]⟩
          case measure => simp [intOf]; omega
        · have hq' : (z == z') = false := beq_eq_false_iff_ne.2 hq
          have hE : (zs == zs') = false := by
            rw [beq_eq_false_iff_ne]
            intro e
            exact hq (by rw [← HZ.out, ← HZ'.out, e])
          have HE := Lib.hid hE
          clear hE
          go_wp2_with fail
          first | (refine wp_region_quiet_lit (by kernel_rfl) (by kernel_rfl) ?_; refine WQ.of ?_; (repeat (refine WQ.step (fun K hK => ?_); go_simp; first | (refine hK _ ?_; clear hK K) | (apply Exists.intro; refine ⟨fun _ => ?_, hK _ ?_⟩; (fail); clear hK K))); refine WQ.nil ?_; intro _ hw'; obtain ⟨nq, hw''⟩ := hw'; subst hw'') | go_quiet (fail)
          go_wp2_with fail
          go_ret
          obtain ⟨m, ew⟩ := HW.out; first | exact ⟨by rw [HE.out]; rfl, m, ew⟩ | exact ⟨by rw [HE.out]; rfl, m + _, by rw [ew, World.drewN_drewN]⟩
      · obtain rfl : k = n := by omega
        have hE : (zs == zs') = true := by
          rw [beq_iff_eq]
          apply List.ext_getElem (by rw [HL.out, HL'.out])
          intro j h1 h2
          have := hpre.out j (by rw [← HL.out]; exact h1)
          simpa [List.getD_eq_getElem?_getD, h1, h2] using this
        have HE := Lib.hid hE
        clear hE
        go_wp2
        go_ret
        obtain ⟨m, ew⟩ := HW.out; first | exact ⟨by rw [HE.out]; rfl, m, ew⟩ | exact ⟨by rw [HE.out]; rfl, m + _, by rw [ew, World.drewN_drewN]⟩
theorem l00Same_q (A A' : Option Addr) (n n' c c' : Nat) (zs zs' : List Int) (w : World) (hs : Sl w w.heap.size 1 A n (zs.map (Value.int .i64))) (hs' : Sl w w.heap.size 1 A' n' (zs'.map (Value.int .i64))) (hn : n ≤ 9223372036854775807) (hn' : n' ≤ 9223372036854775807) (r : Bool) (hr : (zs == zs') = r) (j : Nat) :
    Calls Try.prog 76 #[.slice A n c, .slice A' n' c'] (w.drewN j) fun e w' => e = .returned (.bool r) ∧ ∃ m, w' = w.drewN m := by
  subst hr
  exact quiet_many (l00Same_quiet A A' n n' c c' zs zs' (w.drewN j) (hs.drewN j) (hs'.drewN j) hn hn')
end Go.Proofs.Ytpcenpedbdenmaa
