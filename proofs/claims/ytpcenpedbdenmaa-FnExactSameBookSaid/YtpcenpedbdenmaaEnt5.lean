/- Entries of books compared: quiet comparisons. Conditions: lengths below 2^63. -/
import Derived.Test.YtpcenpedbdenmaaEnt4
import Derived.Test.YtpcenpedbdenmaaSameQ
import Derived.Test.YtpcenpedbdenmaaKeeps
namespace Go.Proofs.Ytpcenpedbdenmaa
set_option linter.unusedSimpArgs false
set_option linter.unusedVariables false
open Go.RowKit Go.WideShapes Go.ChangeShapes Go.Deep

theorem Sl.tri {w : World} {B n : Nat} {A : Option Addr} {zs : List Int} (h : Sl w B 3 A n (zs.map (Value.int .i64))) {k : Nat} (hk : k < n) :
    ∃ b off z0 z1 z2, A = some ⟨b, off, none⟩ ∧ b < B ∧ Hid (zs.getD (k * 3) 0 = z0) ∧ Hid (zs.getD (k * 3 + 1) 0 = z1) ∧ Hid (zs.getD (k * 3 + 2) 0 = z2) ∧ w.cell? ⟨b, off + k * 3, none⟩ = some (.int .i64 z0) ∧ w.cell? ⟨b, off + k * 3 + 1, none⟩ = some (.int .i64 z1) ∧ w.cell? ⟨b, off + k * 3 + 2, none⟩ = some (.int .i64 z2) := by
  obtain ⟨b, off, e, hb, hl, hc⟩ := h.cellAt hk
  have h0 := hc 0 (by omega)
  have h1 := hc 1 (by omega)
  have h2 := hc 2 (by omega)
  rw [Nat.add_zero] at h0
  rw [← Nat.add_assoc] at h1 h2
  exact ⟨b, off, _, _, _, e, hb, rfl, rfl, rfl, h0, h1, h2⟩
theorem tri_all {n : Nat} {zs zs' : List Int} (HL : zs.length = n * 3) (HL' : zs'.length = n * 3) (h : ∀ j, j < n → zs.getD (j * 3) 0 = zs'.getD (j * 3) 0 ∧ zs.getD (j * 3 + 1) 0 = zs'.getD (j * 3 + 1) 0 ∧ zs.getD (j * 3 + 2) 0 = zs'.getD (j * 3 + 2) 0) : eqL zs zs' = true := by
  rw [eqL, decide_eq_true_eq]
  apply List.ext_getElem (by rw [HL, HL'])
  intro j h1 h2
  obtain ⟨q, r, hr, rfl⟩ : ∃ q r, r < 3 ∧ j = q * 3 + r := ⟨j / 3, j % 3, by omega, by omega⟩
  obtain ⟨g0, g1, g2⟩ := h q (by omega)
  have h3 : zs.getD (q * 3 + r) 0 = zs'.getD (q * 3 + r) 0 := by
    have hi' : r = 0 ∨ r = 1 ∨ r = 2 := by omega
    rcases hi' with rfl | rfl | rfl
    · exact g0
    · exact g1
    · exact g2
  simpa [List.getD_eq_getElem?_getD, h1, h2] using h3
theorem tri_no {k : Nat} {zs zs' : List Int} {z0 z1 z2 y0 y1 y2 : Int} (a0 : zs.getD (k * 3) 0 = z0) (a1 : zs.getD (k * 3 + 1) 0 = z1) (a2 : zs.getD (k * 3 + 2) 0 = z2) (b0 : zs'.getD (k * 3) 0 = y0) (b1 : zs'.getD (k * 3 + 1) 0 = y1) (b2 : zs'.getD (k * 3 + 2) 0 = y2) (h : ¬(z0 = y0 ∧ z1 = y1 ∧ z2 = y2)) : eqL zs zs' = false := by
  rw [eqL, decide_eq_false_iff_not]
  rintro rfl
  exact h ⟨a0.symm.trans b0, a1.symm.trans b1, a2.symm.trans b2⟩
theorem tri_if {z0 z1 z2 y0 y1 y2 : Int} (h : ¬(z0 = y0 ∧ z1 = y1 ∧ z2 = y2)) : ∀ (α : Type) (x y : α), (if z0 = y0 then if z1 = y1 then if z2 = y2 then x else y else y else y) = y := by
  intro α x y
  by_cases h0 : z0 = y0
  · by_cases h1 : z1 = y1
    · by_cases h2 : z2 = y2
      · exact absurd ⟨h0, h1, h2⟩ h
      · simp [h2]
    · simp [h1]
  · simp [h0]
set_option maxHeartbeats 400000 in
theorem sameNumbers_quiet (A A' : Option Addr) (n n' c c' : Nat) (zs zs' : List Int) (w : World) (hs : Sl w w.heap.size 1 A n (zs.map (Value.int .i64))) (hs' : Sl w w.heap.size 1 A' n' (zs'.map (Value.int .i64))) (hn : n ≤ 9223372036854775807) (hn' : n' ≤ 9223372036854775807) :
    Calls Try.prog 70 #[.slice A n c, .slice A' n' c'] w fun e w' => e = .returned (.bool (zs == zs')) ∧ ∃ m, w' = w.drewN m := by
  have HL := Lib.hid hs.ints
  have HL' := Lib.hid hs'.ints
  by_cases he : n = n'
  case neg =>
    have hne : (zs == zs') = false := by
      rw [beq_eq_false_iff_ne]
      intro e
      exact he (by rw [← HL.out, ← HL'.out, e])
    have HN := Lib.hid hne
    clear hne
    go_enter Try.func70, Try.ntmps70
    go_wp2
    go_ret
    exact ⟨by rw [HN.out]; rfl, 0, rfl⟩
  case pos =>
    subst he
    go_enter Try.func70, Try.ntmps70
    go_wp2
    go_loopw [13] (fun i wr => ∃ k : Nat, k ≤ n ∧ i = .int .i64 k ∧ Hid (∀ j, j < k → zs.getD j 0 = zs'.getD j 0) ∧ ∃ m, wr = w.drewN m) (fun i _ => n - (intOf i).toNat)
    case atStart => exact ⟨0, Nat.zero_le _, rfl, fun j hj => absurd hj (by omega), 0, rfl⟩
    case round =>
      obtain ⟨k, hk, rfl, hpre, hm⟩ := hrel
      have HW := Lib.hid hm
      have hsr : Sl wr w.heap.size 1 A n (zs.map (Value.int .i64)) := by obtain ⟨m, rfl⟩ := hm; exact hs.drewN m
      have hsr' : Sl wr w.heap.size 1 A' n (zs'.map (Value.int .i64)) := by obtain ⟨m, rfl⟩ := hm; exact hs'.drewN m
      clear hm
      by_cases hlt : k < n
      · obtain ⟨b, off, z, rfl, hb, HZ, hc⟩ := hsr.int hlt
        obtain ⟨b', off', z', rfl, hb', HZ', hc'⟩ := hsr'.int hlt
        by_cases hq : z = z'
        · subst hq
          go_wp2_with fail
          first | (refine wp_region_quiet_lit (by kernel_rfl) (by kernel_rfl) ?_; refine WQ.of ?_; (repeat (refine WQ.step (fun K hK => ?_); go_simp; first | (refine hK _ ?_; clear hK K) | (apply Exists.intro; refine ⟨fun _ => ?_, hK _ ?_⟩; (fail); clear hK K))); refine WQ.nil ?_; intro _ hw'; obtain ⟨nq, hw''⟩ := hw'; subst hw'') | go_quiet (fail)
          go_wp2_with fail
          go_roundw
          case rel =>
            refine ⟨k + 1, by omega, by go_num, fun j hj => ?_, ?_⟩
            · rcases Nat.lt_or_ge j k with h | h
              · exact hpre.out j h
              · obtain rfl : j = k := by omega
                rw [HZ.out, HZ'.out]
            · obtain ⟨m, e⟩ := HW.out; exact ⟨m + _, by rw [e, World.drewN_drewN]⟩
          case measure => simp [intOf]; omega
        · have hq' : (z == z') = false := beq_eq_false_iff_ne.2 hq
          have hE : (zs == zs') = false := by
            rw [beq_eq_false_iff_ne]
            intro e
            exact hq (by rw [← HZ.out, ← HZ'.out, e])
          have HE := Lib.hid hE
          clear hE
          go_wp2_with fail
          first | (refine wp_region_quiet_lit (by kernel_rfl) (by kernel_rfl) ?_; refine WQ.of ?_; (repeat (refine WQ.step (fun K hK => ?_); go_simp; first | (refine hK _ ?_; clear hK K) | (apply Exists.intro; refine ⟨fun _ => ?_, hK _ ?_⟩; (fail); clear hK K))); refine WQ.nil ?_; intro _ hw'; obtain ⟨nq, hw''⟩ := hw'; subst hw'') | go_quiet (fail)
          go_wp2_with fail
          go_ret
          obtain ⟨m, ew⟩ := HW.out; first | exact ⟨by rw [HE.out]; rfl, m, ew⟩ | exact ⟨by rw [HE.out]; rfl, m + _, by rw [ew, World.drewN_drewN]⟩
      · obtain rfl : k = n := by omega
        have hE : (zs == zs') = true := by
          rw [beq_iff_eq]
          apply List.ext_getElem (by rw [HL.out, HL'.out])
          intro j h1 h2
          have := hpre.out j (by rw [← HL.out]; exact h1)
          simpa [List.getD_eq_getElem?_getD, h1, h2] using this
        have HE := Lib.hid hE
        clear hE
        go_wp2
        go_ret
        obtain ⟨m, ew⟩ := HW.out; first | exact ⟨by rw [HE.out]; rfl, m, ew⟩ | exact ⟨by rw [HE.out]; rfl, m + _, by rw [ew, World.drewN_drewN]⟩
theorem sameNumbers_q (A A' : Option Addr) (n n' c c' : Nat) (zs zs' : List Int) (w : World) (hs : Sl w w.heap.size 1 A n (zs.map (Value.int .i64))) (hs' : Sl w w.heap.size 1 A' n' (zs'.map (Value.int .i64))) (hn : n ≤ 9223372036854775807) (hn' : n' ≤ 9223372036854775807) (r : Bool) (hr : (zs == zs') = r) (j : Nat) :
    Calls Try.prog 70 #[.slice A n c, .slice A' n' c'] (w.drewN j) fun e w' => e = .returned (.bool r) ∧ ∃ m, w' = w.drewN m := by
  subst hr
  exact quiet_many (sameNumbers_quiet A A' n n' c c' zs zs' (w.drewN j) (hs.drewN j) (hs'.drewN j) hn hn')
set_option maxHeartbeats 1000000 in
theorem sameChoices_quiet (A A' : Option Addr) (n n' c c' : Nat) (zs zs' : List Int) (w : World) (hs : Sl w w.heap.size 3 A n (zs.map (Value.int .i64))) (hs' : Sl w w.heap.size 3 A' n' (zs'.map (Value.int .i64))) (hn : n ≤ 9223372036854775807) (hn' : n' ≤ 9223372036854775807) :
    Calls Try.prog 71 #[.slice A n c, .slice A' n' c'] w fun e w' => e = .returned (.bool (eqL zs zs')) ∧ ∃ m, w' = w.drewN m := by
  have HL := Lib.hid hs.cnt
  have HL' := Lib.hid hs'.cnt
  by_cases he : n = n'
  case neg =>
    have hne : eqL zs zs' = false := by
      rw [eqL, decide_eq_false_iff_not]
      intro e
      have h1 := HL.out
      rw [e, HL'.out] at h1
      omega
    have HN := Lib.hid hne
    clear hne
    go_enter Try.func71, Try.ntmps71
    go_wp2
    go_ret
    exact ⟨by rw [HN.out]; rfl, 0, rfl⟩
  case pos =>
    subst he
    go_enter Try.func71, Try.ntmps71
    go_wp2
    go_loopw [13] (fun i wr => ∃ k : Nat, k ≤ n ∧ i = .int .i64 k ∧ Hid (∀ j, j < k → zs.getD (j * 3) 0 = zs'.getD (j * 3) 0 ∧ zs.getD (j * 3 + 1) 0 = zs'.getD (j * 3 + 1) 0 ∧ zs.getD (j * 3 + 2) 0 = zs'.getD (j * 3 + 2) 0) ∧ ∃ m, wr = w.drewN m) (fun i _ => n - (intOf i).toNat)
    case atStart => exact ⟨0, Nat.zero_le _, rfl, fun j hj => absurd hj (by omega), 0, rfl⟩
    case round =>
      obtain ⟨k, hk, rfl, hpre, hm⟩ := hrel
      have HW := Lib.hid hm
      have hsr : Sl wr w.heap.size 3 A n (zs.map (Value.int .i64)) := by obtain ⟨m, rfl⟩ := hm; exact hs.drewN m
      have hsr' : Sl wr w.heap.size 3 A' n (zs'.map (Value.int .i64)) := by obtain ⟨m, rfl⟩ := hm; exact hs'.drewN m
      clear hm
      by_cases hlt : k < n
      · obtain ⟨b, off, z0, z1, z2, rfl, hb, HZ0, HZ1, HZ2, hc0, hc1, hc2⟩ := hsr.tri hlt
        obtain ⟨b', off', y0, y1, y2, rfl, hb', HY0, HY1, HY2, hd0, hd1, hd2⟩ := hsr'.tri hlt
        by_cases hq : z0 = y0 ∧ z1 = y1 ∧ z2 = y2
        · obtain ⟨rfl, rfl, rfl⟩ := hq
          go_wp2_with fail
          first | (refine wp_region_quiet_lit (by kernel_rfl) (by kernel_rfl) ?_; refine WQ.of ?_; (repeat (refine WQ.step (fun K hK => ?_); go_simp; first | (refine hK _ ?_; clear hK K) | (apply Exists.intro; refine ⟨fun _ => ?_, hK _ ?_⟩; (fail); clear hK K))); refine WQ.nil ?_; intro _ hw'; obtain ⟨nq, hw''⟩ := hw'; subst hw'') | go_quiet (fail)
          go_wp2_with fail
          go_roundw
          case rel =>
            refine ⟨k + 1, by omega, by go_num, fun j hj => ?_, ?_⟩
            · rcases Nat.lt_or_ge j k with h | h
              · exact hpre.out j h
              · obtain rfl : j = k := by omega
                exact ⟨HZ0.out.trans HY0.out.symm, HZ1.out.trans HY1.out.symm, HZ2.out.trans HY2.out.symm⟩
            · obtain ⟨m, e⟩ := HW.out; exact ⟨m + _, by rw [e, World.drewN_drewN]⟩
          case measure => first | (simp [intOf]; done) | (simp [intOf]; omega)
        · have HE := Lib.hid (tri_no HZ0.out HZ1.out HZ2.out HY0.out HY1.out HY2.out hq)
          have hif := tri_if hq
          clear hq
          go_wp2_with fail
          first | (refine wp_region_quiet_lit (by kernel_rfl) (by kernel_rfl) ?_; refine WQ.of ?_; (repeat (refine WQ.step (fun K hK => ?_); go_simp; first | (refine hK _ ?_; clear hK K) | (apply Exists.intro; refine ⟨fun _ => ?_, hK _ ?_⟩; (fail); clear hK K))); refine WQ.nil ?_; intro _ hw'; obtain ⟨nq, hw''⟩ := hw'; subst hw'') | go_quiet (fail)
          go_wp2_with fail
          all_goals first | (go_ret; obtain ⟨m, ew⟩ := HW.out; first | exact ⟨by rw [HE.out]; rfl, m, ew⟩ | exact ⟨by rw [HE.out]; rfl, m + _, by rw [ew, World.drewN_drewN]⟩) | (exfalso; revert hif; simp [*])
      · obtain rfl : k = n := by omega
        have HE := Lib.hid (tri_all HL.out HL'.out hpre.out)
        go_wp2
        go_ret
        obtain ⟨m, ew⟩ := HW.out; first | exact ⟨by rw [HE.out]; rfl, m, ew⟩ | exact ⟨by rw [HE.out]; rfl, m + _, by rw [ew, World.drewN_drewN]⟩
theorem sameChoices_q (A A' : Option Addr) (n n' c c' : Nat) (zs zs' : List Int) (w : World) (hs : Sl w w.heap.size 3 A n (zs.map (Value.int .i64))) (hs' : Sl w w.heap.size 3 A' n' (zs'.map (Value.int .i64))) (hn : n ≤ 9223372036854775807) (hn' : n' ≤ 9223372036854775807) (r : Bool) (hr : eqL zs zs' = r) (j : Nat) :
    Calls Try.prog 71 #[.slice A n c, .slice A' n' c'] (w.drewN j) fun e w' => e = .returned (.bool r) ∧ ∃ m, w' = w.drewN m := by
  subst hr
  exact quiet_many (sameChoices_quiet A A' n n' c c' zs zs' (w.drewN j) (hs.drewN j) (hs'.drewN j) hn hn')
def sameEntR (e e' : EntR) : Bool := (e.ps == e'.ps) && eqL e.cs e'.cs
set_option maxHeartbeats 2000000 in
theorem l20Same_any (b1 o1 b2 o2 : Nat) (ps cs ps' cs' : List Int) (A1 A2 B1 B2 : Option Addr) (m1 c1 m2 c2 n1 d1 n2 d2 : Nat) (w : World) (L1 : b1 < w.heap.size) (L2 : b2 < w.heap.size) (x0 : w.cell? ⟨b1, o1, none⟩ = some (.slice A1 m1 c1)) (x1 : w.cell? ⟨b1, o1 + 1, none⟩ = some (.slice A2 m2 c2)) (y0 : w.cell? ⟨b2, o2, none⟩ = some (.slice B1 n1 d1)) (y1 : w.cell? ⟨b2, o2 + 1, none⟩ = some (.slice B2 n2 d2)) (hs : Sl w w.heap.size 1 A1 m1 (ps.map (Value.int .i64))) (hs' : Sl w w.heap.size 1 B1 n1 (ps'.map (Value.int .i64))) (ht : Sl w w.heap.size 3 A2 m2 (cs.map (Value.int .i64))) (ht' : Sl w w.heap.size 3 B2 n2 (cs'.map (Value.int .i64))) (hm : m1 ≤ 9223372036854775807) (hm' : n1 ≤ 9223372036854775807) (hm2 : m2 ≤ 9223372036854775807) (hm2' : n2 ≤ 9223372036854775807) :
    Calls Try.prog 68 #[.pointer (some ⟨b1, o1, none⟩), .pointer (some ⟨b2, o2, none⟩)] w fun e w' => e = .returned (.bool (sameEntR ⟨ps, cs⟩ ⟨ps', cs'⟩)) ∧ Below w.heap.size w w' := by
  obtain ⟨q, hq⟩ : ∃ q, (ps == ps') = q := ⟨_, rfl⟩
  have HPS := Lib.hid hq
  have HL := Lib.hid ht.cnt
  have HL' := Lib.hid ht'.cnt
  cases q
  case false =>
    have HE : Hid (sameEntR ⟨ps, cs⟩ ⟨ps', cs'⟩ = false) := by unfold Hid sameEntR; simp [hq]
    clear hq
    go_enter Try.func68, Try.ntmps68
    go_wp2_with fail
    first | (refine wp_region_quiet_lit (by kernel_rfl) (by kernel_rfl) ?_; refine WQ.of ?_; (repeat (refine WQ.step (fun K hK => ?_); go_simp; first | (refine hK _ ?_; clear hK K) | (apply Exists.intro; refine ⟨fun _ => ?_, hK _ ?_⟩; ((go_at_call 76; exact l00Same_q A1 B1 m1 n1 c1 d1 ps ps' w hs hs' hm hm' _ HPS.out _)); clear hK K))); refine WQ.nil ?_; intro _ hw'; obtain ⟨nq, hw''⟩ := hw'; subst hw'') | go_quiet ((go_at_call 76; exact l00Same_q A1 B1 m1 n1 c1 d1 ps ps' w hs hs' hm hm' _ HPS.out _))
    go_wp2_with fail
    go_ret
    exact ⟨by rw [HE.out]; rfl, belowDrewN (Below.refl _ _) _⟩
  case true =>
    have HP : Hid (sameEntR ⟨ps, cs⟩ ⟨ps', cs'⟩ = eqL cs cs') := by unfold Hid sameEntR; simp only [hq, Bool.true_and]
    clear hq
    by_cases he : m2 = n2
    case neg =>
      have HE : Hid (sameEntR ⟨ps, cs⟩ ⟨ps', cs'⟩ = false) := by
        unfold Hid
        rw [HP.out, eqL, decide_eq_false_iff_not]
        intro e
        have h1 := HL.out
        rw [e, HL'.out] at h1
        omega
      go_enter Try.func68, Try.ntmps68
      go_wp2_with fail
      first | (refine wp_region_quiet_lit (by kernel_rfl) (by kernel_rfl) ?_; refine WQ.of ?_; (repeat (refine WQ.step (fun K hK => ?_); go_simp; first | (refine hK _ ?_; clear hK K) | (apply Exists.intro; refine ⟨fun _ => ?_, hK _ ?_⟩; ((go_at_call 76; exact l00Same_q A1 B1 m1 n1 c1 d1 ps ps' w hs hs' hm hm' _ HPS.out _)); clear hK K))); refine WQ.nil ?_; intro _ hw'; obtain ⟨nq, hw''⟩ := hw'; subst hw'') | go_quiet ((go_at_call 76; exact l00Same_q A1 B1 m1 n1 c1 d1 ps ps' w hs hs' hm hm' _ HPS.out _))
      go_wp2_with fail
      go_ret
      exact ⟨by rw [HE.out]; rfl, belowDrewN (Below.refl _ _) _⟩
    case pos =>
      subst he
      go_enter Try.func68, Try.ntmps68
      go_wp2_with fail
      first | (refine wp_region_quiet_lit (by kernel_rfl) (by kernel_rfl) ?_; refine WQ.of ?_; (repeat (refine WQ.step (fun K hK => ?_); go_simp; first | (refine hK _ ?_; clear hK K) | (apply Exists.intro; refine ⟨fun _ => ?_, hK _ ?_⟩; ((go_at_call 76; exact l00Same_q A1 B1 m1 n1 c1 d1 ps ps' w hs hs' hm hm' _ HPS.out _)); clear hK K))); refine WQ.nil ?_; intro _ hw'; obtain ⟨nq, hw''⟩ := hw'; subst hw'') | go_quiet ((go_at_call 76; exact l00Same_q A1 B1 m1 n1 c1 d1 ps ps' w hs hs' hm hm' _ HPS.out _))
      go_wp2_with fail
      go_loopw [5] (fun i wr => ∃ k : Nat, k ≤ m2 ∧ i = .int .i64 k ∧ Hid (∀ j, j < k → cs.getD (j * 3) 0 = cs'.getD (j * 3) 0 ∧ cs.getD (j * 3 + 1) 0 = cs'.getD (j * 3 + 1) 0 ∧ cs.getD (j * 3 + 2) 0 = cs'.getD (j * 3 + 2) 0) ∧ Below w.heap.size w wr) (fun i _ => m2 - (intOf i).toNat)
      case atStart => exact ⟨0, Nat.zero_le _, rfl, fun j hj => absurd hj (by omega), by (repeat' (first | (with_reducible exact Below.refl _ _) | (with_reducible assumption) | (with_reducible refine Below.alloc ?_ ?_ _) | (with_reducible refine Below.drew ?_) | (with_reducible refine belowDrewN ?_ _) | (with_reducible refine Below.setCell ?_ ?_ _) | (with_reducible refine Below.via (by with_reducible assumption) ?_ ?_) | (with_reducible refine Below.viaD (by with_reducible assumption) ?_ ?_) | (with_reducible exact Below.size (by with_reducible assumption)) | go_size | (with_reducible refine Nat.le_trans ?_ (Below.size (by with_reducible assumption))) | (with_reducible refine Nat.le_trans ?_ (sizeAlloc _ _)) | (with_reducible refine Nat.le_trans ?_ (sizeSet _ _ _)) | (with_reducible refine Nat.le_trans ?_ (sizeDrew _))))⟩
      case round =>
        obtain ⟨k, hk, rfl, hpre, hbl⟩ := hrel
        have HB := Lib.hid hbl
        have e0 := (hbl.cell (p := ⟨b1, o1, none⟩) L1).trans x0
        have e1 := (hbl.cell (p := ⟨b1, o1 + 1, none⟩) L1).trans x1
        have f0 := (hbl.cell (p := ⟨b2, o2, none⟩) L2).trans y0
        have f1 := (hbl.cell (p := ⟨b2, o2 + 1, none⟩) L2).trans y1
        by_cases hlt : k < m2
        · obtain ⟨b, off, z0, z1, z2, rfl, hb, HZ0, HZ1, HZ2, hc0, hc1, hc2⟩ := (ht.below hbl).tri hlt
          obtain ⟨b', off', v0, v1, v2, rfl, hb', HY0, HY1, HY2, hd0, hd1, hd2⟩ := (ht'.below hbl).tri hlt
          clear hbl
          by_cases hq : z0 = v0 ∧ z1 = v1 ∧ z2 = v2
          · obtain ⟨rfl, rfl, rfl⟩ := hq
            go_wp2_with fail
            first | (refine wp_region_quiet_lit (by kernel_rfl) (by kernel_rfl) ?_; refine WQ.of ?_; (repeat (refine WQ.step (fun K hK => ?_); go_simp; first | (refine hK _ ?_; clear hK K) | (apply Exists.intro; refine ⟨fun _ => ?_, hK _ ?_⟩; (fail); clear hK K))); refine WQ.nil ?_; intro _ hw'; obtain ⟨nq, hw''⟩ := hw'; subst hw'') | go_quiet (fail)
            go_wp2_with fail
            go_roundw
            case rel =>
              refine ⟨k + 1, by omega, by go_num, fun j hj => ?_, belowDrewN HB.out _⟩
              rcases Nat.lt_or_ge j k with h | h
              · exact hpre.out j h
              · obtain rfl : j = k := by omega
                exact ⟨HZ0.out.trans HY0.out.symm, HZ1.out.trans HY1.out.symm, HZ2.out.trans HY2.out.symm⟩
            case measure => first | (simp [intOf]; done) | (simp [intOf]; omega)
          · have HE := Lib.hid (tri_no HZ0.out HZ1.out HZ2.out HY0.out HY1.out HY2.out hq)
            have hif := tri_if hq
            clear hq
            go_wp2_with fail
            first | (refine wp_region_quiet_lit (by kernel_rfl) (by kernel_rfl) ?_; refine WQ.of ?_; (repeat (refine WQ.step (fun K hK => ?_); go_simp; first | (refine hK _ ?_; clear hK K) | (apply Exists.intro; refine ⟨fun _ => ?_, hK _ ?_⟩; (fail); clear hK K))); refine WQ.nil ?_; intro _ hw'; obtain ⟨nq, hw''⟩ := hw'; subst hw'') | go_quiet (fail)
            go_wp2_with fail
            all_goals first | (go_ret; exact ⟨by rw [HP.out, HE.out]; rfl, belowDrewN HB.out _⟩) | (exfalso; revert hif; simp [*])
        · obtain rfl : k = m2 := by omega
          have HE := Lib.hid (tri_all HL.out HL'.out hpre.out)
          go_wp2
          go_ret
          exact ⟨by rw [HP.out, HE.out]; rfl, HB.out⟩
end Go.Proofs.Ytpcenpedbdenmaa
