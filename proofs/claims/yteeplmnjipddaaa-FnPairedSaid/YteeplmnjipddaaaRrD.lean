/- Draws of round robins; lists of meetings compared. Conditions: at most 2^20 bytes. -/
import Derived.Test.YteeplmnjipddaaaDraw1
import Derived.Test.YteeplmnjipddaaaRobin
namespace Go.Proofs.Yteeplmnjipddaaa
set_option linter.unusedSimpArgs false
set_option linter.unusedVariables false
open Go.RowKit Go.WideShapes

def Big6 (n : Nat) (w : World) (e : Ending) (w' : World) : Prop := ∃ q, e = .returned (.bool q) ∧ (q = false → n ≤ 4096) ∧ w = w'
theorem f6big_any (A : Option Addr) (n c : Nat) (w : World) : Calls Try.prog 23 #[.slice A n c] w (Big6 n w) := by
  by_cases h : n ≤ 4096
  · have h2 : decide ((4096 : Int) < n) = false := decide_eq_false (by omega)
    go_enter Try.func23, Try.ntmps23
    go_wp2_with fail
    go_ret
    exact ⟨_, rfl, fun _ => h, rfl⟩
  · have h2 : decide ((4096 : Int) < n) = true := decide_eq_true (by omega)
    go_enter Try.func23, Try.ntmps23
    go_wp2_with fail
    go_ret
    exact ⟨true, rfl, fun h => by simp at h, rfl⟩
def NumP (b : Nat) (A : Option Addr) (n c M : Nat) (cs : List Int) (w : World) (e : Ending) (w' : World) : Prop :=
  ∃ x : Int, e = .returned (.int .i64 x) ∧ 0 ≤ x ∧ x ≤ 13 ∧ Src w' b A n c (M + 4) cs ∧ w.grownBy w' (some b)
set_option maxHeartbeats 2000000 in
theorem l24Number_any (b : Nat) (A : Option Addr) (n c M : Nat) (cs : List Int) (w : World) (h : Src w b A n c M cs) (hn : n ≤ 1048576) (hM : M ≤ 999999000) :
    Calls Try.prog 48 #[.pointer (some ⟨b, 0, none⟩)] w (NumP b A n c M cs w) := by
  have HS := Lib.hid h
  have hbl := h.lt
  clear h
  go_enter Try.func48, Try.ntmps48
  go_wp2_with fail
  refine (one_any b A n c M cs 10 _ HS.out hn (by omega) (by omega)).mono ?_
  rintro e w1 ⟨q, rfl, S1, g1⟩
  have HS1 := Lib.hid S1
  have HG1 := Lib.hid g1
  have z1 := g1.size
  clear S1 g1
  cases q
  case true =>
    have HS2 : Hid (Src (w1.alloc (.cells (([1, 2, 12, 13, 0] : List Int).map (Value.int .i64)).toArray 2)) b A n c (M + 2) cs) := HS1.out.later (Below.alloc (Below.refl _ _) (Nat.le_refl _) _)
    have HL : Hid (Sl (w1.alloc (.cells (([1, 2, 12, 13, 0] : List Int).map (Value.int .i64)).toArray 2)) (w1.alloc (.cells (([1, 2, 12, 13, 0] : List Int).map (Value.int .i64)).toArray 2)).heap.size 1 (some ⟨w1.heap.size, 0, none⟩) 5 (([1, 2, 12, 13, 0] : List Int).map (Value.int .i64))) := Sl.built rfl (by simp) (by rfl)
    go_wp2_with fail
    refine (among_any b A n c (M + 2) cs w1.heap.size 5 5 [1, 2, 12, 13, 0] _ HS2.out hn (by omega) HL.out (by omega) (by omega) (by omega)).mono ?_
    rintro e w2 ⟨v, rfl, hv, S2, g2⟩
    have hv2 : 0 ≤ v ∧ v ≤ 13 := by simp at hv; omega
    have HS3 := Lib.hid S2
    have HG2 := Lib.hid (grown_tr (grown_alloc HG1.out _) g2)
    clear S2 g2 hv
    go_wp2_with fail
    go_ret
    exact ⟨v, rfl, hv2.1, hv2.2, HS3.out, HG2.out⟩
  case false =>
    go_wp2_with fail
    refine (pick_any b A n c (M + 2) cs 7 _ HS1.out hn (by omega) (by omega)).mono ?_
    rintro e w2 ⟨x, rfl, hx0, hx1, -, S2, g2⟩
    have hx2 := hx1 (by omega)
    have HS3 := Lib.hid S2
    have HG2 := Lib.hid (grown_tr HG1.out g2)
    clear S2 g2 hx1
    go_wp2_with fail
    go_ret
    exact ⟨2 + x, rfl, by omega, by omega, HS3.out, HG2.out⟩
set_option maxHeartbeats 2000000 in
theorem f6meetings_same (A A' : Option Addr) (n c c' : Nat) (zs : List Int) (w : World) (hs : Sl w w.heap.size 2 A n (zs.map (Value.int .i64))) (hs' : Sl w w.heap.size 2 A' n (zs.map (Value.int .i64))) (hn : n ≤ 9223372036854775807) :
    Calls Try.prog 27 #[.slice A n c, .slice A' n c'] w fun e w' => e = .returned (.bool true) ∧ Below w.heap.size w w' := by
  go_enter Try.func27, Try.ntmps27
  go_wp2_with fail
  go_loopw [5] (fun i wr => ∃ k : Nat, k ≤ n ∧ i = .int .i64 k ∧ Below w.heap.size w wr) (fun i _ => n - (intOf i).toNat)
  case atStart => exact ⟨0, Nat.zero_le _, rfl, Below.refl _ _⟩
  case round =>
    obtain ⟨k, hk, rfl, hbl⟩ := hrel
    by_cases hlt : k < n
    · obtain ⟨b, off, rfl, hb, hl, hc⟩ := (hs.below hbl).cellAt hlt
      obtain ⟨b', off', rfl, hb', hl', hc'⟩ := (hs'.below hbl).cellAt hlt
      have c0 := hc 0 (by omega)
      have c1 := hc 1 (by omega)
      have d0 := hc' 0 (by omega)
      have d1 := hc' 1 (by omega)
      rw [Nat.add_zero] at c0 d0
      rw [← Nat.add_assoc] at c1 d1
      obtain ⟨x, hx⟩ : ∃ x, zs.getD (k * 2) 0 = x := ⟨_, rfl⟩
      obtain ⟨y, hy⟩ : ∃ x, zs.getD (k * 2 + 1) 0 = x := ⟨_, rfl⟩
      rw [hx] at c0 d0
      rw [hy] at c1 d1
      have HB := Lib.hid hbl
      clear hx hy hc hc' hl hl' hbl
      go_wp2_with fail
      first | (refine wp_region_quiet_lit (by kernel_rfl) (by kernel_rfl) ?_; refine WQ.of ?_; (repeat (refine WQ.step (fun K hK => ?_); go_simp; first | (refine hK _ ?_; clear hK K) | (apply Exists.intro; refine ⟨fun _ => ?_, hK _ ?_⟩; (fail); clear hK K))); refine WQ.nil ?_; intro _ hw'; obtain ⟨nq, hw''⟩ := hw'; subst hw'') | go_quiet (fail)
      go_wp2_with fail
      go_roundw
      case rel => exact ⟨k + 1, by omega, by go_num, belowDrewN HB.out _⟩
      case measure => first | (simp [intOf]; done) | (simp [intOf]; omega)
    · obtain rfl : k = n := by omega
      go_wp2_with fail
      go_ret
      exact ⟨rfl, hbl⟩
end Go.Proofs.Yteeplmnjipddaaa
