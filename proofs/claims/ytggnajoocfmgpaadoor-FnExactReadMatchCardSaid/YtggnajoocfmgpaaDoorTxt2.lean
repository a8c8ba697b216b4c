/- MatchText: both functions, and the law. Conditions: the table of powers as it is laid. -/
import Derived.Test.YtggnajoocfmgpaaDoorTxt1
import Derived.Test.YtggnajoocfmgpaaDoorMatch1
namespace Go.Proofs.YtggnajoocfmgpaaDoor
set_option linter.unusedSimpArgs false
set_option linter.unusedVariables false
open Go.RowKit Go.WideShapes Go.ChangeShapes Go.Deep
def matchT (a b s : Int) : ByteArray := (((decS a ++ ⟨#[32]⟩) ++ decS b) ++ ⟨#[32]⟩) ++ decS s
def matchF (a b s : Int) (f : Bool) : ByteArray := if f then matchT a b s ++ ⟨#[32, 102]⟩ else matchT a b s
def matchX (a b s : Int) (f : Bool) : ByteArray := if mOk 11 a b s then matchF a b s f else ⟨#[]⟩
theorem mOk_bd {a b s : Int} (h : mOk 11 a b s = true) : (-9223372036854775808 ≤ a ∧ a ≤ 9223372036854775807) ∧ (-9223372036854775808 ≤ b ∧ b ≤ 9223372036854775807) ∧ (-9223372036854775808 ≤ s ∧ s ≤ 9223372036854775807) := by
  simp only [mOk, Bool.and_eq_true] at h
  have h1 := inB_of h.1.1.1
  have h2 := inB_of h.1.1.2
  have h3 := inB_of h.2
  omega
theorem wrap11 : wrap64 (12 - 1) = 11 := by unfold wrap64; omega
set_option maxRecDepth 100000 in
set_option maxHeartbeats 4000000 in
theorem l26Text_any (a b c : Int) (f : Bool) (ha : -9223372036854775808 ≤ a ∧ a ≤ 9223372036854775807) (hb : -9223372036854775808 ≤ b ∧ b ≤ 9223372036854775807) (hc : -9223372036854775808 ≤ c ∧ c ≤ 9223372036854775807) (g : Nat) (w : World) (hk : Cells w [(g, #[.int .i64 a, .int .i64 b, .int .i64 c, .bool f])]) :
    Calls Tryd.prog 52 #[.pointer (some ⟨g, 0, none⟩)] w fun e w' => e = .returned (.string (matchF a b c f)) ∧ Below w.heap.size w w' := by
  obtain ⟨s0, e0⟩ : ∃ s, decS a = s := ⟨_, rfl⟩
  obtain ⟨s1, e1⟩ : ∃ s, s0 ++ (⟨#[32]⟩ : ByteArray) = s := ⟨_, rfl⟩
  obtain ⟨s2, e2⟩ : ∃ s, decS b = s := ⟨_, rfl⟩
  obtain ⟨s3, e3⟩ : ∃ s, s1 ++ s2 = s := ⟨_, rfl⟩
  obtain ⟨s4, e4⟩ : ∃ s, s3 ++ (⟨#[32]⟩ : ByteArray) = s := ⟨_, rfl⟩
  obtain ⟨s5, e5⟩ : ∃ s, decS c = s := ⟨_, rfl⟩
  obtain ⟨s6, e6⟩ : ∃ s, s4 ++ s5 = s := ⟨_, rfl⟩
  obtain ⟨s7, e7⟩ : ∃ s, s6 ++ (⟨#[32, 102]⟩ : ByteArray) = s := ⟨_, rfl⟩
  have z0 : s0.size ≤ 21 := by rw [← e0]; exact decS_size ha.1 ha.2
  have z1 : s1.size ≤ 22 := by rw [← e1, ByteArray.size_append]; show _ + 1 ≤ 22; omega
  have z2 : s2.size ≤ 21 := by rw [← e2]; exact decS_size hb.1 hb.2
  have z3 : s3.size ≤ 43 := by rw [← e3, ByteArray.size_append]; omega
  have z4 : s4.size ≤ 44 := by rw [← e4, ByteArray.size_append]; show _ + 1 ≤ 44; omega
  have z5 : s5.size ≤ 21 := by rw [← e5]; exact decS_size hc.1 hc.2
  have z6 : s6.size ≤ 65 := by rw [← e6, ByteArray.size_append]; omega
  have hadd1 := add_all s0 ⟨#[32]⟩ s1 e1 (by show _ + 1 ≤ _; omega)
  have hadd2 := add_all s1 s2 s3 e3 (by omega)
  have hadd3 := add_all s3 ⟨#[32]⟩ s4 e4 (by show _ + 1 ≤ _; omega)
  have hadd4 := add_all s4 s5 s6 e6 (by omega)
  have hadd5 := add_all s6 ⟨#[32, 102]⟩ s7 e7 (by show _ + 2 ≤ _; omega)
  have HF : Hid (matchF a b c true = s7) := by unfold Hid matchF matchT; rw [if_pos rfl, e0, e1, e2, e3, e4, e5, e6, e7]
  have HG : Hid (matchF a b c false = s6) := by unfold Hid matchF matchT; rw [if_neg (by decide), e0, e1, e2, e3, e4, e5, e6]
  have HD1 : Hid (∀ W, Below w.heap.size w W → Calls Tryd.prog 40 #[.int .i64 a] W fun e w' => e = .returned (.string s0) ∧ Below W.heap.size W w') := by
    intro W hbW
    rw [← e0]
    exact l01Dec_any a ha.1 ha.2 W
  have HD2 : Hid (∀ W, Below w.heap.size w W → Calls Tryd.prog 40 #[.int .i64 b] W fun e w' => e = .returned (.string s2) ∧ Below W.heap.size W w') := by
    intro W hbW
    rw [← e2]
    exact l01Dec_any b hb.1 hb.2 W
  have HD3 : Hid (∀ W, Below w.heap.size w W → Calls Tryd.prog 40 #[.int .i64 c] W fun e w' => e = .returned (.string s5) ∧ Below W.heap.size W w') := by
    intro W hbW
    rw [← e5]
    exact l01Dec_any c hc.1 hc.2 W
  clear z0 z1 z2 z3 z4 z5 z6 e0 e1 e2 e3 e4 e5 e6 e7 ha hb hc
  have HK := Lib.hid (show Keeps w w [(g, #[.int .i64 a, .int .i64 b, .int .i64 c, .bool f])] from ⟨Below.refl _ _, hk⟩)
  cases f
  case false =>
    have hk0 := hk
    obtain ⟨⟨hl0, hc0⟩, _⟩ := hk0
    go_enter Tryd.func52, Tryd.ntmps52
    go_wp2_with fail
    clear hl0 hc0
    refine wp_region_held_drew (S := (fun W => Keeps w W [(g, #[.int .i64 a, .int .i64 b, .int .i64 c, .bool false])])) (by kernel_rfl) ?_ (fun hHeld => ?_)
    focus ((try dsimp only); (first | (exact hHeld.later hb_) | (exact HK.out.drew) | (exact HK.out)))
    refine H_take (i := 0) (v := ?_) rfl (by kernel_rfl) (by kernel_rfl) (by kernel_rfl) (fun _ _ _ h => h) (by rfl) ?_ (by assumption) ?_
    rotate_left
    focus (intro w hSw; obtain ⟨_, ⟨hl0, hc0⟩, _⟩ := hSw; go_simp; first | done | with_reducible rfl | (trace_state; fail))
    try simp only [Act.put, List.setIfInBounds_toArray, List.set_cons_zero, List.set_cons_succ]
    refine H_take (i := 1) (v := ?_) rfl (by kernel_rfl) (by kernel_rfl) (by kernel_rfl) (fun _ _ _ h => h) (by rfl) ?_ (by assumption) ?_
    rotate_left
    focus (intro w hSw; obtain ⟨_, ⟨hl0, hc0⟩, _⟩ := hSw; go_simp; first | done | with_reducible rfl | (trace_state; fail))
    try simp only [Act.put, List.setIfInBounds_toArray, List.set_cons_zero, List.set_cons_succ]
    refine H_take (i := 2) (v := ?_) rfl (by kernel_rfl) (by kernel_rfl) (by kernel_rfl) (fun _ _ _ h => h) (by rfl) ?_ (by assumption) ?_
    rotate_left
    focus (intro w hSw; obtain ⟨_, ⟨hl0, hc0⟩, _⟩ := hSw; go_simp; first | done | with_reducible rfl | (trace_state; fail))
    try simp only [Act.put, List.setIfInBounds_toArray, List.set_cons_zero, List.set_cons_succ]
    refine H_take (i := 3) (v := ?_) rfl (by kernel_rfl) (by kernel_rfl) (by kernel_rfl) (fun _ _ _ h => h) (by rfl) ?_ (by assumption) ?_
    rotate_left
    focus (intro w hSw; obtain ⟨_, ⟨hl0, hc0⟩, _⟩ := hSw; go_simp; first | done | with_reducible rfl | (trace_state; fail))
    try simp only [Act.put, List.setIfInBounds_toArray, List.set_cons_zero, List.set_cons_succ]
    refine H_take (i := 6) (v := ?_) rfl (by kernel_rfl) (by kernel_rfl) (by kernel_rfl) (fun _ _ _ h => h) (by rfl) ?_ (by assumption) ?_
    rotate_left
    focus (intro w hSw; obtain ⟨_, ⟨hl0, hc0⟩, _⟩ := hSw; go_simp; first | done | with_reducible rfl | (trace_state; fail))
    try simp only [Act.put, List.setIfInBounds_toArray, List.set_cons_zero, List.set_cons_succ]
    refine H_take (i := 7) (v := ?_) rfl (by kernel_rfl) (by kernel_rfl) (by kernel_rfl) (fun _ _ _ h => h) (by rfl) ?_ (by assumption) ?_
    rotate_left
    focus (intro w hSw; obtain ⟨_, ⟨hl0, hc0⟩, _⟩ := hSw; go_simp; first | done | with_reducible rfl | (trace_state; fail))
    try simp only [Act.put, List.setIfInBounds_toArray, List.set_cons_zero, List.set_cons_succ]
    refine H_take (i := 8) (v := ?_) rfl (by kernel_rfl) (by kernel_rfl) (by kernel_rfl) (fun _ _ _ h => h) (by rfl) ?_ (by assumption) ?_
    rotate_left
    focus (intro w hSw; obtain ⟨_, ⟨hl0, hc0⟩, _⟩ := hSw; go_simp; first | done | with_reducible rfl | (trace_state; fail))
    try simp only [Act.put, List.setIfInBounds_toArray, List.set_cons_zero, List.set_cons_succ]
    refine H_take (i := 9) (v := ?_) rfl (by kernel_rfl) (by kernel_rfl) (by kernel_rfl) (fun _ _ _ h => h) (by rfl) ?_ (by assumption) ?_
    rotate_left
    focus (intro w hSw; obtain ⟨_, ⟨hl0, hc0⟩, _⟩ := hSw; go_simp; first | done | with_reducible rfl | (trace_state; fail))
    try simp only [Act.put, List.setIfInBounds_toArray, List.set_cons_zero, List.set_cons_succ]
    refine H_take (i := 13) (v := ?_) rfl (by kernel_rfl) (by kernel_rfl) (by kernel_rfl) (fun _ _ _ h => h) (by rfl) ?_ (by assumption) ?_
    rotate_left
    focus (intro w hSw; obtain ⟨_, ⟨hl0, hc0⟩, _⟩ := hSw; go_simp; first | done | with_reducible rfl | (trace_state; fail))
    try simp only [Act.put, List.setIfInBounds_toArray, List.set_cons_zero, List.set_cons_succ]
    refine H_take (i := 14) (v := ?_) rfl (by kernel_rfl) (by kernel_rfl) (by kernel_rfl) (fun _ _ _ h => h) (by rfl) ?_ (by assumption) ?_
    rotate_left
    focus (intro w hSw; obtain ⟨_, ⟨hl0, hc0⟩, _⟩ := hSw; go_simp; first | done | with_reducible rfl | (trace_state; fail))
    try simp only [Act.put, List.setIfInBounds_toArray, List.set_cons_zero, List.set_cons_succ]
    refine H_take (i := 15) (v := ?_) rfl (by kernel_rfl) (by kernel_rfl) (by kernel_rfl) (fun _ _ _ h => h) (by rfl) ?_ (by assumption) ?_
    rotate_left
    focus (intro w hSw; obtain ⟨_, ⟨hl0, hc0⟩, _⟩ := hSw; go_simp; first | done | with_reducible rfl | (trace_state; fail))
    try simp only [Act.put, List.setIfInBounds_toArray, List.set_cons_zero, List.set_cons_succ]
    refine H_take (i := 16) (v := ?_) rfl (by kernel_rfl) (by kernel_rfl) (by kernel_rfl) (fun _ _ _ h => h) (by rfl) ?_ (by assumption) ?_
    rotate_left
    focus (intro w hSw; obtain ⟨_, ⟨hl0, hc0⟩, _⟩ := hSw; go_simp; first | done | with_reducible rfl | (trace_state; fail))
    try simp only [Act.put, List.setIfInBounds_toArray, List.set_cons_zero, List.set_cons_succ]
    refine H_call (i := 4) rfl (by kernel_rfl) (fun K hK => ?_)
    go_simp
    (go_at_call 40; (with_reducible refine Calls.mono (HD1.out _ hHeld.b) ?_); rintro e v1 ⟨rfl, hb_⟩)
    refine hK.out _ _ ?_ (fun hHeld => ?_)
    focus ((try dsimp only); (first | (exact hHeld.later hb_) | (exact HK.out.drew) | (exact HK.out)))
    clear hK K
    try simp only [Act.put, List.setIfInBounds_toArray, List.set_cons_zero, List.set_cons_succ]
    refine H_take (i := 5) (v := ?_) rfl (by kernel_rfl) (by kernel_rfl) (by kernel_rfl) (fun _ _ _ h => h) (by rfl) ?_ (by assumption) ?_
    rotate_left
    focus (intro w hSw; obtain ⟨_, ⟨hl0, hc0⟩, _⟩ := hSw; go_simp; first | done | with_reducible rfl | (trace_state; fail))
    try simp only [Act.put, List.setIfInBounds_toArray, List.set_cons_zero, List.set_cons_succ]
    refine H_call (i := 10) rfl (by kernel_rfl) (fun K hK => ?_)
    go_simp
    (go_at_call 40; (with_reducible refine Calls.mono (HD2.out _ hHeld.b) ?_); rintro e v1 ⟨rfl, hb_⟩)
    refine hK.out _ _ ?_ (fun hHeld => ?_)
    focus ((try dsimp only); (first | (exact hHeld.later hb_) | (exact HK.out.drew) | (exact HK.out)))
    clear hK K
    try simp only [Act.put, List.setIfInBounds_toArray, List.set_cons_zero, List.set_cons_succ]
    refine H_take (i := 11) (v := ?_) rfl (by kernel_rfl) (by kernel_rfl) (by kernel_rfl) (fun _ _ _ h => h) (by rfl) ?_ (by assumption) ?_
    rotate_left
    focus (intro w hSw; obtain ⟨_, ⟨hl0, hc0⟩, _⟩ := hSw; go_simp; first | done | with_reducible rfl | (trace_state; fail))
    try simp only [Act.put, List.setIfInBounds_toArray, List.set_cons_zero, List.set_cons_succ]
    refine H_take (i := 12) (v := ?_) rfl (by kernel_rfl) (by kernel_rfl) (by kernel_rfl) (fun _ _ _ h => h) (by rfl) ?_ (by assumption) ?_
    rotate_left
    focus (intro w hSw; obtain ⟨_, ⟨hl0, hc0⟩, _⟩ := hSw; go_simp; first | done | with_reducible rfl | (trace_state; fail))
    try simp only [Act.put, List.setIfInBounds_toArray, List.set_cons_zero, List.set_cons_succ]
    refine H_call (i := 17) rfl (by kernel_rfl) (fun K hK => ?_)
    go_simp
    (go_at_call 40; (with_reducible refine Calls.mono (HD3.out _ hHeld.b) ?_); rintro e v1 ⟨rfl, hb_⟩)
    refine hK.out _ _ ?_ (fun hHeld => ?_)
    focus ((try dsimp only); (first | (exact hHeld.later hb_) | (exact HK.out.drew) | (exact HK.out)))
    clear hK K
    try simp only [Act.put, List.setIfInBounds_toArray, List.set_cons_zero, List.set_cons_succ]
    refine H_take (i := 18) (v := ?_) rfl (by kernel_rfl) (by kernel_rfl) (by kernel_rfl) (fun _ _ _ h => h) (by rfl) ?_ (by assumption) ?_
    rotate_left
    focus (intro w hSw; obtain ⟨_, ⟨hl0, hc0⟩, _⟩ := hSw; go_simp; first | done | with_reducible rfl | (trace_state; fail))
    try simp only [Act.put, List.setIfInBounds_toArray, List.set_cons_zero, List.set_cons_succ]
    refine H_take (i := 19) (v := ?_) rfl (by kernel_rfl) (by kernel_rfl) (by kernel_rfl) (fun _ _ _ h => h) (by rfl) ?_ (by assumption) ?_
    rotate_left
    focus (intro w hSw; obtain ⟨_, ⟨hl0, hc0⟩, _⟩ := hSw; go_simp; first | done | with_reducible rfl | (trace_state; fail))
    try simp only [Act.put, List.setIfInBounds_toArray, List.set_cons_zero, List.set_cons_succ]
    refine wpAnyH_done (by kernel_rfl) ?_ _
    obtain ⟨_, ⟨hl0, hc0⟩, _⟩ := id hHeld
    go_wp2_with fail
    go_ret
    exact ⟨by rw [HG.out]; rfl, hHeld.b⟩
  case true =>
    have hk0 := hk
    obtain ⟨⟨hl0, hc0⟩, _⟩ := hk0
    go_enter Tryd.func52, Tryd.ntmps52
    go_wp2_with fail
    clear hl0 hc0
    refine wp_region_held_drew (S := (fun W => Keeps w W [(g, #[.int .i64 a, .int .i64 b, .int .i64 c, .bool true])])) (by kernel_rfl) ?_ (fun hHeld => ?_)
    focus ((try dsimp only); (first | (exact hHeld.later hb_) | (exact HK.out.drew) | (exact HK.out)))
    refine H_take (i := 0) (v := ?_) rfl (by kernel_rfl) (by kernel_rfl) (by kernel_rfl) (fun _ _ _ h => h) (by rfl) ?_ (by assumption) ?_
    rotate_left
    focus (intro w hSw; obtain ⟨_, ⟨hl0, hc0⟩, _⟩ := hSw; go_simp; first | done | with_reducible rfl | (trace_state; fail))
    try simp only [Act.put, List.setIfInBounds_toArray, List.set_cons_zero, List.set_cons_succ]
    refine H_take (i := 1) (v := ?_) rfl (by kernel_rfl) (by kernel_rfl) (by kernel_rfl) (fun _ _ _ h => h) (by rfl) ?_ (by assumption) ?_
    rotate_left
    focus (intro w hSw; obtain ⟨_, ⟨hl0, hc0⟩, _⟩ := hSw; go_simp; first | done | with_reducible rfl | (trace_state; fail))
    try simp only [Act.put, List.setIfInBounds_toArray, List.set_cons_zero, List.set_cons_succ]
    refine H_take (i := 2) (v := ?_) rfl (by kernel_rfl) (by kernel_rfl) (by kernel_rfl) (fun _ _ _ h => h) (by rfl) ?_ (by assumption) ?_
    rotate_left
    focus (intro w hSw; obtain ⟨_, ⟨hl0, hc0⟩, _⟩ := hSw; go_simp; first | done | with_reducible rfl | (trace_state; fail))
    try simp only [Act.put, List.setIfInBounds_toArray, List.set_cons_zero, List.set_cons_succ]
    refine H_take (i := 3) (v := ?_) rfl (by kernel_rfl) (by kernel_rfl) (by kernel_rfl) (fun _ _ _ h => h) (by rfl) ?_ (by assumption) ?_
    rotate_left
    focus (intro w hSw; obtain ⟨_, ⟨hl0, hc0⟩, _⟩ := hSw; go_simp; first | done | with_reducible rfl | (trace_state; fail))
    try simp only [Act.put, List.setIfInBounds_toArray, List.set_cons_zero, List.set_cons_succ]
    refine H_take (i := 6) (v := ?_) rfl (by kernel_rfl) (by kernel_rfl) (by kernel_rfl) (fun _ _ _ h => h) (by rfl) ?_ (by assumption) ?_
    rotate_left
    focus (intro w hSw; obtain ⟨_, ⟨hl0, hc0⟩, _⟩ := hSw; go_simp; first | done | with_reducible rfl | (trace_state; fail))
    try simp only [Act.put, List.setIfInBounds_toArray, List.set_cons_zero, List.set_cons_succ]
    refine H_take (i := 7) (v := ?_) rfl (by kernel_rfl) (by kernel_rfl) (by kernel_rfl) (fun _ _ _ h => h) (by rfl) ?_ (by assumption) ?_
    rotate_left
    focus (intro w hSw; obtain ⟨_, ⟨hl0, hc0⟩, _⟩ := hSw; go_simp; first | done | with_reducible rfl | (trace_state; fail))
    try simp only [Act.put, List.setIfInBounds_toArray, List.set_cons_zero, List.set_cons_succ]
    refine H_take (i := 8) (v := ?_) rfl (by kernel_rfl) (by kernel_rfl) (by kernel_rfl) (fun _ _ _ h => h) (by rfl) ?_ (by assumption) ?_
    rotate_left
    focus (intro w hSw; obtain ⟨_, ⟨hl0, hc0⟩, _⟩ := hSw; go_simp; first | done | with_reducible rfl | (trace_state; fail))
    try simp only [Act.put, List.setIfInBounds_toArray, List.set_cons_zero, List.set_cons_succ]
    refine H_take (i := 9) (v := ?_) rfl (by kernel_rfl) (by kernel_rfl) (by kernel_rfl) (fun _ _ _ h => h) (by rfl) ?_ (by assumption) ?_
    rotate_left
    focus (intro w hSw; obtain ⟨_, ⟨hl0, hc0⟩, _⟩ := hSw; go_simp; first | done | with_reducible rfl | (trace_state; fail))
    try simp only [Act.put, List.setIfInBounds_toArray, List.set_cons_zero, List.set_cons_succ]
    refine H_take (i := 13) (v := ?_) rfl (by kernel_rfl) (by kernel_rfl) (by kernel_rfl) (fun _ _ _ h => h) (by rfl) ?_ (by assumption) ?_
    rotate_left
    focus (intro w hSw; obtain ⟨_, ⟨hl0, hc0⟩, _⟩ := hSw; go_simp; first | done | with_reducible rfl | (trace_state; fail))
    try simp only [Act.put, List.setIfInBounds_toArray, List.set_cons_zero, List.set_cons_succ]
    refine H_take (i := 14) (v := ?_) rfl (by kernel_rfl) (by kernel_rfl) (by kernel_rfl) (fun _ _ _ h => h) (by rfl) ?_ (by assumption) ?_
    rotate_left
    focus (intro w hSw; obtain ⟨_, ⟨hl0, hc0⟩, _⟩ := hSw; go_simp; first | done | with_reducible rfl | (trace_state; fail))
    try simp only [Act.put, List.setIfInBounds_toArray, List.set_cons_zero, List.set_cons_succ]
    refine H_take (i := 15) (v := ?_) rfl (by kernel_rfl) (by kernel_rfl) (by kernel_rfl) (fun _ _ _ h => h) (by rfl) ?_ (by assumption) ?_
    rotate_left
    focus (intro w hSw; obtain ⟨_, ⟨hl0, hc0⟩, _⟩ := hSw; go_simp; first | done | with_reducible rfl | (trace_state; fail))
    try simp only [Act.put, List.setIfInBounds_toArray, List.set_cons_zero, List.set_cons_succ]
    refine H_take (i := 16) (v := ?_) rfl (by kernel_rfl) (by kernel_rfl) (by kernel_rfl) (fun _ _ _ h => h) (by rfl) ?_ (by assumption) ?_
    rotate_left
    focus (intro w hSw; obtain ⟨_, ⟨hl0, hc0⟩, _⟩ := hSw; go_simp; first | done | with_reducible rfl | (trace_state; fail))
    try simp only [Act.put, List.setIfInBounds_toArray, List.set_cons_zero, List.set_cons_succ]
    refine H_call (i := 4) rfl (by kernel_rfl) (fun K hK => ?_)
    go_simp
    (go_at_call 40; (with_reducible refine Calls.mono (HD1.out _ hHeld.b) ?_); rintro e v1 ⟨rfl, hb_⟩)
    refine hK.out _ _ ?_ (fun hHeld => ?_)
    focus ((try dsimp only); (first | (exact hHeld.later hb_) | (exact HK.out.drew) | (exact HK.out)))
    clear hK K
    try simp only [Act.put, List.setIfInBounds_toArray, List.set_cons_zero, List.set_cons_succ]
    refine H_take (i := 5) (v := ?_) rfl (by kernel_rfl) (by kernel_rfl) (by kernel_rfl) (fun _ _ _ h => h) (by rfl) ?_ (by assumption) ?_
    rotate_left
    focus (intro w hSw; obtain ⟨_, ⟨hl0, hc0⟩, _⟩ := hSw; go_simp; first | done | with_reducible rfl | (trace_state; fail))
    try simp only [Act.put, List.setIfInBounds_toArray, List.set_cons_zero, List.set_cons_succ]
    refine H_call (i := 10) rfl (by kernel_rfl) (fun K hK => ?_)
    go_simp
    (go_at_call 40; (with_reducible refine Calls.mono (HD2.out _ hHeld.b) ?_); rintro e v1 ⟨rfl, hb_⟩)
    refine hK.out _ _ ?_ (fun hHeld => ?_)
    focus ((try dsimp only); (first | (exact hHeld.later hb_) | (exact HK.out.drew) | (exact HK.out)))
    clear hK K
    try simp only [Act.put, List.setIfInBounds_toArray, List.set_cons_zero, List.set_cons_succ]
    refine H_take (i := 11) (v := ?_) rfl (by kernel_rfl) (by kernel_rfl) (by kernel_rfl) (fun _ _ _ h => h) (by rfl) ?_ (by assumption) ?_
    rotate_left
    focus (intro w hSw; obtain ⟨_, ⟨hl0, hc0⟩, _⟩ := hSw; go_simp; first | done | with_reducible rfl | (trace_state; fail))
    try simp only [Act.put, List.setIfInBounds_toArray, List.set_cons_zero, List.set_cons_succ]
    refine H_take (i := 12) (v := ?_) rfl (by kernel_rfl) (by kernel_rfl) (by kernel_rfl) (fun _ _ _ h => h) (by rfl) ?_ (by assumption) ?_
    rotate_left
    focus (intro w hSw; obtain ⟨_, ⟨hl0, hc0⟩, _⟩ := hSw; go_simp; first | done | with_reducible rfl | (trace_state; fail))
    try simp only [Act.put, List.setIfInBounds_toArray, List.set_cons_zero, List.set_cons_succ]
    refine H_call (i := 17) rfl (by kernel_rfl) (fun K hK => ?_)
    go_simp
    (go_at_call 40; (with_reducible refine Calls.mono (HD3.out _ hHeld.b) ?_); rintro e v1 ⟨rfl, hb_⟩)
    refine hK.out _ _ ?_ (fun hHeld => ?_)
    focus ((try dsimp only); (first | (exact hHeld.later hb_) | (exact HK.out.drew) | (exact HK.out)))
    clear hK K
    try simp only [Act.put, List.setIfInBounds_toArray, List.set_cons_zero, List.set_cons_succ]
    refine H_take (i := 18) (v := ?_) rfl (by kernel_rfl) (by kernel_rfl) (by kernel_rfl) (fun _ _ _ h => h) (by rfl) ?_ (by assumption) ?_
    rotate_left
    focus (intro w hSw; obtain ⟨_, ⟨hl0, hc0⟩, _⟩ := hSw; go_simp; first | done | with_reducible rfl | (trace_state; fail))
    try simp only [Act.put, List.setIfInBounds_toArray, List.set_cons_zero, List.set_cons_succ]
    refine H_take (i := 19) (v := ?_) rfl (by kernel_rfl) (by kernel_rfl) (by kernel_rfl) (fun _ _ _ h => h) (by rfl) ?_ (by assumption) ?_
    rotate_left
    focus (intro w hSw; obtain ⟨_, ⟨hl0, hc0⟩, _⟩ := hSw; go_simp; first | done | with_reducible rfl | (trace_state; fail))
    try simp only [Act.put, List.setIfInBounds_toArray, List.set_cons_zero, List.set_cons_succ]
    refine wpAnyH_done (by kernel_rfl) ?_ _
    obtain ⟨_, ⟨hl0, hc0⟩, _⟩ := id hHeld
    go_wp2_with fail
    go_ret
    exact ⟨by rw [HF.out]; rfl, hHeld.b⟩
set_option maxRecDepth 100000 in
set_option maxHeartbeats 4000000 in
theorem MatchText_ok (a b c : Int) (f : Bool) (ha : -9223372036854775808 ≤ a ∧ a ≤ 9223372036854775807) (hb : -9223372036854775808 ≤ b ∧ b ≤ 9223372036854775807) (hc : -9223372036854775808 ≤ c ∧ c ≤ 9223372036854775807) (w : World) (ht : TabW w) (hv : mOk 11 a b c = true) :
    Calls Tryd.prog 21 #[.agg #[.int .i64 a, .int .i64 b, .int .i64 c, .bool f]] w fun e w' => e = .returned (.string (matchF a b c f)) ∧ Below w.heap.size w w' := by
  obtain ⟨s0, e0⟩ : ∃ s, decS a = s := ⟨_, rfl⟩
  obtain ⟨s1, e1⟩ : ∃ s, s0 ++ (⟨#[32]⟩ : ByteArray) = s := ⟨_, rfl⟩
  obtain ⟨s2, e2⟩ : ∃ s, decS b = s := ⟨_, rfl⟩
  obtain ⟨s3, e3⟩ : ∃ s, s1 ++ s2 = s := ⟨_, rfl⟩
  obtain ⟨s4, e4⟩ : ∃ s, s3 ++ (⟨#[32]⟩ : ByteArray) = s := ⟨_, rfl⟩
  obtain ⟨s5, e5⟩ : ∃ s, decS c = s := ⟨_, rfl⟩
  obtain ⟨s6, e6⟩ : ∃ s, s4 ++ s5 = s := ⟨_, rfl⟩
  obtain ⟨s7, e7⟩ : ∃ s, s6 ++ (⟨#[32, 102]⟩ : ByteArray) = s := ⟨_, rfl⟩
  have z0 : s0.size ≤ 21 := by rw [← e0]; exact decS_size ha.1 ha.2
  have z1 : s1.size ≤ 22 := by rw [← e1, ByteArray.size_append]; show _ + 1 ≤ 22; omega
  have z2 : s2.size ≤ 21 := by rw [← e2]; exact decS_size hb.1 hb.2
  have z3 : s3.size ≤ 43 := by rw [← e3, ByteArray.size_append]; omega
  have z4 : s4.size ≤ 44 := by rw [← e4, ByteArray.size_append]; show _ + 1 ≤ 44; omega
  have z5 : s5.size ≤ 21 := by rw [← e5]; exact decS_size hc.1 hc.2
  have z6 : s6.size ≤ 65 := by rw [← e6, ByteArray.size_append]; omega
  have hadd1 := add_all s0 ⟨#[32]⟩ s1 e1 (by show _ + 1 ≤ _; omega)
  have hadd2 := add_all s1 s2 s3 e3 (by omega)
  have hadd3 := add_all s3 ⟨#[32]⟩ s4 e4 (by show _ + 1 ≤ _; omega)
  have hadd4 := add_all s4 s5 s6 e6 (by omega)
  have hadd5 := add_all s6 ⟨#[32, 102]⟩ s7 e7 (by show _ + 2 ≤ _; omega)
  have HF : Hid (matchF a b c true = s7) := by unfold Hid matchF matchT; rw [if_pos rfl, e0, e1, e2, e3, e4, e5, e6, e7]
  have HG : Hid (matchF a b c false = s6) := by unfold Hid matchF matchT; rw [if_neg (by decide), e0, e1, e2, e3, e4, e5, e6]
  have HD1 : Hid (∀ W, Below w.heap.size w W → Calls Tryd.prog 42 #[.int .i64 a] W fun e w' => e = .returned (.string s0) ∧ Below W.heap.size W w') := by
    intro W hbW
    rw [← e0]
    exact Decimal_any a ha.1 ha.2 W (ht.later hbW)
  have HD2 : Hid (∀ W, Below w.heap.size w W → Calls Tryd.prog 42 #[.int .i64 b] W fun e w' => e = .returned (.string s2) ∧ Below W.heap.size W w') := by
    intro W hbW
    rw [← e2]
    exact Decimal_any b hb.1 hb.2 W (ht.later hbW)
  have HD3 : Hid (∀ W, Below w.heap.size w W → Calls Tryd.prog 42 #[.int .i64 c] W fun e w' => e = .returned (.string s5) ∧ Below W.heap.size W w') := by
    intro W hbW
    rw [← e5]
    exact Decimal_any c hc.1 hc.2 W (ht.later hbW)
  clear z0 z1 z2 z3 z4 z5 z6 e0 e1 e2 e3 e4 e5 e6 e7 ha hb hc
  have HV := Lib.hid hv
  clear hv
  cases f
  case false =>
    have HK := Lib.hid ((Keeps.nil w).box (g := w.heap.size) rfl #[.int .i64 a, .int .i64 b, .int .i64 c, .bool false] 39)
    go_enter Tryd.func21, Tryd.ntmps21
    go_wp2_with fail
    refine (validMatch_any 12 11 a b c false _ wrap11).mono ?_
    rw [HV.out]
    rintro e w1 ⟨rfl, hb1⟩
    replace HK := Lib.hid (HK.out.later hb1)
    obtain ⟨_, ⟨hl0, hc0⟩, _⟩ := HK.out
    go_wp2_with fail
    clear hl0 hc0
    refine wp_region_held_drew (S := (fun W => Keeps w W [(w.heap.size, #[.int .i64 a, .int .i64 b, .int .i64 c, .bool false])])) (by kernel_rfl) ?_ (fun hHeld => ?_)
    focus ((try dsimp only); (first | (exact hHeld.later hb_) | (exact HK.out.drew) | (exact HK.out)))
    refine H_take (i := 0) (v := ?_) rfl (by kernel_rfl) (by kernel_rfl) (by kernel_rfl) (fun _ _ _ h => h) (by rfl) ?_ (by assumption) ?_
    rotate_left
    focus (intro w hSw; obtain ⟨_, ⟨hl0, hc0⟩, _⟩ := hSw; go_simp; first | done | with_reducible rfl | (trace_state; fail))
    try simp only [Act.put, List.setIfInBounds_toArray, List.set_cons_zero, List.set_cons_succ]
    refine H_take (i := 1) (v := ?_) rfl (by kernel_rfl) (by kernel_rfl) (by kernel_rfl) (fun _ _ _ h => h) (by rfl) ?_ (by assumption) ?_
    rotate_left
    focus (intro w hSw; obtain ⟨_, ⟨hl0, hc0⟩, _⟩ := hSw; go_simp; first | done | with_reducible rfl | (trace_state; fail))
    try simp only [Act.put, List.setIfInBounds_toArray, List.set_cons_zero, List.set_cons_succ]
    refine H_take (i := 4) (v := ?_) rfl (by kernel_rfl) (by kernel_rfl) (by kernel_rfl) (fun _ _ _ h => h) (by rfl) ?_ (by assumption) ?_
    rotate_left
    focus (intro w hSw; obtain ⟨_, ⟨hl0, hc0⟩, _⟩ := hSw; go_simp; first | done | with_reducible rfl | (trace_state; fail))
    try simp only [Act.put, List.setIfInBounds_toArray, List.set_cons_zero, List.set_cons_succ]
    refine H_take (i := 5) (v := ?_) rfl (by kernel_rfl) (by kernel_rfl) (by kernel_rfl) (fun _ _ _ h => h) (by rfl) ?_ (by assumption) ?_
    rotate_left
    focus (intro w hSw; obtain ⟨_, ⟨hl0, hc0⟩, _⟩ := hSw; go_simp; first | done | with_reducible rfl | (trace_state; fail))
    try simp only [Act.put, List.setIfInBounds_toArray, List.set_cons_zero, List.set_cons_succ]
    refine H_take (i := 9) (v := ?_) rfl (by kernel_rfl) (by kernel_rfl) (by kernel_rfl) (fun _ _ _ h => h) (by rfl) ?_ (by assumption) ?_
    rotate_left
    focus (intro w hSw; obtain ⟨_, ⟨hl0, hc0⟩, _⟩ := hSw; go_simp; first | done | with_reducible rfl | (trace_state; fail))
    try simp only [Act.put, List.setIfInBounds_toArray, List.set_cons_zero, List.set_cons_succ]
    refine H_take (i := 10) (v := ?_) rfl (by kernel_rfl) (by kernel_rfl) (by kernel_rfl) (fun _ _ _ h => h) (by rfl) ?_ (by assumption) ?_
    rotate_left
    focus (intro w hSw; obtain ⟨_, ⟨hl0, hc0⟩, _⟩ := hSw; go_simp; first | done | with_reducible rfl | (trace_state; fail))
    try simp only [Act.put, List.setIfInBounds_toArray, List.set_cons_zero, List.set_cons_succ]
    refine H_call (i := 2) rfl (by kernel_rfl) (fun K hK => ?_)
    go_simp
    (go_at_call 42; (with_reducible refine Calls.mono (HD1.out _ hHeld.b) ?_); rintro e v1 ⟨rfl, hb_⟩)
    refine hK.out _ _ ?_ (fun hHeld => ?_)
    focus ((try dsimp only); (first | (exact hHeld.later hb_) | (exact HK.out.drew) | (exact HK.out)))
    clear hK K
    try simp only [Act.put, List.setIfInBounds_toArray, List.set_cons_zero, List.set_cons_succ]
    refine H_take (i := 3) (v := ?_) rfl (by kernel_rfl) (by kernel_rfl) (by kernel_rfl) (fun _ _ _ h => h) (by rfl) ?_ (by assumption) ?_
    rotate_left
    focus (intro w hSw; obtain ⟨_, ⟨hl0, hc0⟩, _⟩ := hSw; go_simp; first | done | with_reducible rfl | (trace_state; fail))
    try simp only [Act.put, List.setIfInBounds_toArray, List.set_cons_zero, List.set_cons_succ]
    refine H_call (i := 6) rfl (by kernel_rfl) (fun K hK => ?_)
    go_simp
    (go_at_call 42; (with_reducible refine Calls.mono (HD2.out _ hHeld.b) ?_); rintro e v1 ⟨rfl, hb_⟩)
    refine hK.out _ _ ?_ (fun hHeld => ?_)
    focus ((try dsimp only); (first | (exact hHeld.later hb_) | (exact HK.out.drew) | (exact HK.out)))
    clear hK K
    try simp only [Act.put, List.setIfInBounds_toArray, List.set_cons_zero, List.set_cons_succ]
    refine H_take (i := 7) (v := ?_) rfl (by kernel_rfl) (by kernel_rfl) (by kernel_rfl) (fun _ _ _ h => h) (by rfl) ?_ (by assumption) ?_
    rotate_left
    focus (intro w hSw; obtain ⟨_, ⟨hl0, hc0⟩, _⟩ := hSw; go_simp; first | done | with_reducible rfl | (trace_state; fail))
    try simp only [Act.put, List.setIfInBounds_toArray, List.set_cons_zero, List.set_cons_succ]
    refine H_take (i := 8) (v := ?_) rfl (by kernel_rfl) (by kernel_rfl) (by kernel_rfl) (fun _ _ _ h => h) (by rfl) ?_ (by assumption) ?_
    rotate_left
    focus (intro w hSw; obtain ⟨_, ⟨hl0, hc0⟩, _⟩ := hSw; go_simp; first | done | with_reducible rfl | (trace_state; fail))
    try simp only [Act.put, List.setIfInBounds_toArray, List.set_cons_zero, List.set_cons_succ]
    refine H_call (i := 11) rfl (by kernel_rfl) (fun K hK => ?_)
    go_simp
    (go_at_call 42; (with_reducible refine Calls.mono (HD3.out _ hHeld.b) ?_); rintro e v1 ⟨rfl, hb_⟩)
    refine hK.out _ _ ?_ (fun hHeld => ?_)
    focus ((try dsimp only); (first | (exact hHeld.later hb_) | (exact HK.out.drew) | (exact HK.out)))
    clear hK K
    try simp only [Act.put, List.setIfInBounds_toArray, List.set_cons_zero, List.set_cons_succ]
    refine H_take (i := 12) (v := ?_) rfl (by kernel_rfl) (by kernel_rfl) (by kernel_rfl) (fun _ _ _ h => h) (by rfl) ?_ (by assumption) ?_
    rotate_left
    focus (intro w hSw; obtain ⟨_, ⟨hl0, hc0⟩, _⟩ := hSw; go_simp; first | done | with_reducible rfl | (trace_state; fail))
    try simp only [Act.put, List.setIfInBounds_toArray, List.set_cons_zero, List.set_cons_succ]
    refine H_take (i := 13) (v := ?_) rfl (by kernel_rfl) (by kernel_rfl) (by kernel_rfl) (fun _ _ _ h => h) (by rfl) ?_ (by assumption) ?_
    rotate_left
    focus (intro w hSw; obtain ⟨_, ⟨hl0, hc0⟩, _⟩ := hSw; go_simp; first | done | with_reducible rfl | (trace_state; fail))
    try simp only [Act.put, List.setIfInBounds_toArray, List.set_cons_zero, List.set_cons_succ]
    refine wpAnyH_done (by kernel_rfl) ?_ _
    obtain ⟨_, ⟨hl0, hc0⟩, _⟩ := id hHeld
    go_wp2_with fail
    go_ret
    exact ⟨by rw [HG.out]; rfl, hHeld.b⟩
  case true =>
    have HK := Lib.hid ((Keeps.nil w).box (g := w.heap.size) rfl #[.int .i64 a, .int .i64 b, .int .i64 c, .bool true] 39)
    go_enter Tryd.func21, Tryd.ntmps21
    go_wp2_with fail
    refine (validMatch_any 12 11 a b c true _ wrap11).mono ?_
    rw [HV.out]
    rintro e w1 ⟨rfl, hb1⟩
    replace HK := Lib.hid (HK.out.later hb1)
    obtain ⟨_, ⟨hl0, hc0⟩, _⟩ := HK.out
    go_wp2_with fail
    clear hl0 hc0
    refine wp_region_held_drew (S := (fun W => Keeps w W [(w.heap.size, #[.int .i64 a, .int .i64 b, .int .i64 c, .bool true])])) (by kernel_rfl) ?_ (fun hHeld => ?_)
    focus ((try dsimp only); (first | (exact hHeld.later hb_) | (exact HK.out.drew) | (exact HK.out)))
    refine H_take (i := 0) (v := ?_) rfl (by kernel_rfl) (by kernel_rfl) (by kernel_rfl) (fun _ _ _ h => h) (by rfl) ?_ (by assumption) ?_
    rotate_left
    focus (intro w hSw; obtain ⟨_, ⟨hl0, hc0⟩, _⟩ := hSw; go_simp; first | done | with_reducible rfl | (trace_state; fail))
    try simp only [Act.put, List.setIfInBounds_toArray, List.set_cons_zero, List.set_cons_succ]
    refine H_take (i := 1) (v := ?_) rfl (by kernel_rfl) (by kernel_rfl) (by kernel_rfl) (fun _ _ _ h => h) (by rfl) ?_ (by assumption) ?_
    rotate_left
    focus (intro w hSw; obtain ⟨_, ⟨hl0, hc0⟩, _⟩ := hSw; go_simp; first | done | with_reducible rfl | (trace_state; fail))
    try simp only [Act.put, List.setIfInBounds_toArray, List.set_cons_zero, List.set_cons_succ]
    refine H_take (i := 4) (v := ?_) rfl (by kernel_rfl) (by kernel_rfl) (by kernel_rfl) (fun _ _ _ h => h) (by rfl) ?_ (by assumption) ?_
    rotate_left
    focus (intro w hSw; obtain ⟨_, ⟨hl0, hc0⟩, _⟩ := hSw; go_simp; first | done | with_reducible rfl | (trace_state; fail))
    try simp only [Act.put, List.setIfInBounds_toArray, List.set_cons_zero, List.set_cons_succ]
    refine H_take (i := 5) (v := ?_) rfl (by kernel_rfl) (by kernel_rfl) (by kernel_rfl) (fun _ _ _ h => h) (by rfl) ?_ (by assumption) ?_
    rotate_left
    focus (intro w hSw; obtain ⟨_, ⟨hl0, hc0⟩, _⟩ := hSw; go_simp; first | done | with_reducible rfl | (trace_state; fail))
    try simp only [Act.put, List.setIfInBounds_toArray, List.set_cons_zero, List.set_cons_succ]
    refine H_take (i := 9) (v := ?_) rfl (by kernel_rfl) (by kernel_rfl) (by kernel_rfl) (fun _ _ _ h => h) (by rfl) ?_ (by assumption) ?_
    rotate_left
    focus (intro w hSw; obtain ⟨_, ⟨hl0, hc0⟩, _⟩ := hSw; go_simp; first | done | with_reducible rfl | (trace_state; fail))
    try simp only [Act.put, List.setIfInBounds_toArray, List.set_cons_zero, List.set_cons_succ]
    refine H_take (i := 10) (v := ?_) rfl (by kernel_rfl) (by kernel_rfl) (by kernel_rfl) (fun _ _ _ h => h) (by rfl) ?_ (by assumption) ?_
    rotate_left
    focus (intro w hSw; obtain ⟨_, ⟨hl0, hc0⟩, _⟩ := hSw; go_simp; first | done | with_reducible rfl | (trace_state; fail))
    try simp only [Act.put, List.setIfInBounds_toArray, List.set_cons_zero, List.set_cons_succ]
    refine H_call (i := 2) rfl (by kernel_rfl) (fun K hK => ?_)
    go_simp
    (go_at_call 42; (with_reducible refine Calls.mono (HD1.out _ hHeld.b) ?_); rintro e v1 ⟨rfl, hb_⟩)
    refine hK.out _ _ ?_ (fun hHeld => ?_)
    focus ((try dsimp only); (first | (exact hHeld.later hb_) | (exact HK.out.drew) | (exact HK.out)))
    clear hK K
    try simp only [Act.put, List.setIfInBounds_toArray, List.set_cons_zero, List.set_cons_succ]
    refine H_take (i := 3) (v := ?_) rfl (by kernel_rfl) (by kernel_rfl) (by kernel_rfl) (fun _ _ _ h => h) (by rfl) ?_ (by assumption) ?_
    rotate_left
    focus (intro w hSw; obtain ⟨_, ⟨hl0, hc0⟩, _⟩ := hSw; go_simp; first | done | with_reducible rfl | (trace_state; fail))
    try simp only [Act.put, List.setIfInBounds_toArray, List.set_cons_zero, List.set_cons_succ]
    refine H_call (i := 6) rfl (by kernel_rfl) (fun K hK => ?_)
    go_simp
    (go_at_call 42; (with_reducible refine Calls.mono (HD2.out _ hHeld.b) ?_); rintro e v1 ⟨rfl, hb_⟩)
    refine hK.out _ _ ?_ (fun hHeld => ?_)
    focus ((try dsimp only); (first | (exact hHeld.later hb_) | (exact HK.out.drew) | (exact HK.out)))
    clear hK K
    try simp only [Act.put, List.setIfInBounds_toArray, List.set_cons_zero, List.set_cons_succ]
    refine H_take (i := 7) (v := ?_) rfl (by kernel_rfl) (by kernel_rfl) (by kernel_rfl) (fun _ _ _ h => h) (by rfl) ?_ (by assumption) ?_
    rotate_left
    focus (intro w hSw; obtain ⟨_, ⟨hl0, hc0⟩, _⟩ := hSw; go_simp; first | done | with_reducible rfl | (trace_state; fail))
    try simp only [Act.put, List.setIfInBounds_toArray, List.set_cons_zero, List.set_cons_succ]
    refine H_take (i := 8) (v := ?_) rfl (by kernel_rfl) (by kernel_rfl) (by kernel_rfl) (fun _ _ _ h => h) (by rfl) ?_ (by assumption) ?_
    rotate_left
    focus (intro w hSw; obtain ⟨_, ⟨hl0, hc0⟩, _⟩ := hSw; go_simp; first | done | with_reducible rfl | (trace_state; fail))
    try simp only [Act.put, List.setIfInBounds_toArray, List.set_cons_zero, List.set_cons_succ]
    refine H_call (i := 11) rfl (by kernel_rfl) (fun K hK => ?_)
    go_simp
    (go_at_call 42; (with_reducible refine Calls.mono (HD3.out _ hHeld.b) ?_); rintro e v1 ⟨rfl, hb_⟩)
    refine hK.out _ _ ?_ (fun hHeld => ?_)
    focus ((try dsimp only); (first | (exact hHeld.later hb_) | (exact HK.out.drew) | (exact HK.out)))
    clear hK K
    try simp only [Act.put, List.setIfInBounds_toArray, List.set_cons_zero, List.set_cons_succ]
    refine H_take (i := 12) (v := ?_) rfl (by kernel_rfl) (by kernel_rfl) (by kernel_rfl) (fun _ _ _ h => h) (by rfl) ?_ (by assumption) ?_
    rotate_left
    focus (intro w hSw; obtain ⟨_, ⟨hl0, hc0⟩, _⟩ := hSw; go_simp; first | done | with_reducible rfl | (trace_state; fail))
    try simp only [Act.put, List.setIfInBounds_toArray, List.set_cons_zero, List.set_cons_succ]
    refine H_take (i := 13) (v := ?_) rfl (by kernel_rfl) (by kernel_rfl) (by kernel_rfl) (fun _ _ _ h => h) (by rfl) ?_ (by assumption) ?_
    rotate_left
    focus (intro w hSw; obtain ⟨_, ⟨hl0, hc0⟩, _⟩ := hSw; go_simp; first | done | with_reducible rfl | (trace_state; fail))
    try simp only [Act.put, List.setIfInBounds_toArray, List.set_cons_zero, List.set_cons_succ]
    refine wpAnyH_done (by kernel_rfl) ?_ _
    obtain ⟨_, ⟨hl0, hc0⟩, _⟩ := id hHeld
    go_wp2_with fail
    go_ret
    exact ⟨by rw [HF.out]; rfl, hHeld.b⟩
set_option maxHeartbeats 1000000 in
theorem MatchText_any (a b c : Int) (f : Bool) (s : ByteArray) (hs : matchX a b c f = s) (w : World) (ht : TabW w) :
    Calls Tryd.prog 21 #[.agg #[.int .i64 a, .int .i64 b, .int .i64 c, .bool f]] w fun e w' => e = .returned (.string s) ∧ Below w.heap.size w w' := by
  cases hv : mOk 11 a b c
  case true =>
    obtain ⟨ha, hb, hc⟩ := mOk_bd hv
    rw [← hs, matchX, hv]
    exact MatchText_ok a b c f ha hb hc w ht hv
  case false =>
    have HE : Hid (⟨#[]⟩ = s) := by unfold Hid; rw [← hs, matchX, hv]; rfl
    clear hs
    have HV := Lib.hid hv
    clear hv
    go_enter Tryd.func21, Tryd.ntmps21
    go_wp2_with (go_at_call 53; (with_reducible refine Calls.mono (validMatch_any 12 11 a b c f _ wrap11) ?_); rw [HV.out]; rintro e w1 ⟨rfl, hb1⟩)
    go_ret
    exact ⟨by rw [← HE.out]; rfl, by (repeat' (first | (with_reducible exact Below.refl _ _) | (with_reducible assumption) | (with_reducible refine Below.alloc ?_ ?_ _) | (with_reducible refine Below.drew ?_) | (with_reducible refine belowDrewN ?_ _) | (with_reducible refine Below.setCell ?_ ?_ _) | (with_reducible refine Below.via (by with_reducible assumption) ?_ ?_) | (with_reducible refine Below.viaD (by with_reducible assumption) ?_ ?_) | (with_reducible exact Below.size (by with_reducible assumption)) | go_size | (with_reducible refine Nat.le_trans ?_ (Below.size (by with_reducible assumption))) | (with_reducible refine Nat.le_trans ?_ (sizeAlloc _ _)) | (with_reducible refine Nat.le_trans ?_ (sizeSet _ _ _)) | (with_reducible refine Nat.le_trans ?_ (sizeDrew _))))⟩
set_option maxHeartbeats 1000000 in
theorem sMatchText_any (a b c : Int) (f : Bool) (s : ByteArray) (hs : matchX a b c f = s) (w : World) :
    Calls Tryd.prog 19 #[.agg #[.int .i64 a, .int .i64 b, .int .i64 c, .bool f]] w fun e w' => e = .returned (.string s) ∧ Below w.heap.size w w' := by
  have HK := Lib.hid ((Keeps.nil w).box (g := w.heap.size) rfl #[.int .i64 a, .int .i64 b, .int .i64 c, .bool f] 39)
  obtain ⟨q, hq⟩ : ∃ q, mOk 11 a b c = q := ⟨_, rfl⟩
  have HV := Lib.hid hq
  have HS := Lib.hid hs
  clear hs
  obtain ⟨_, ⟨hl0, hc0⟩, _⟩ := HK.out
  have M0 := Lib.hid (hc0 0)
  have M1 := Lib.hid (hc0 1)
  have M2 := Lib.hid (hc0 2)
  clear hl0 hc0
  cases q
  case true =>
    obtain ⟨ha, hb, hc⟩ := mOk_bd hq
    clear hq
    go_enter Tryd.func19, Tryd.ntmps19
    go_wp2_with fail
    refine (l26Match_any 12 11 a b c w.heap.size 0 _ wrap11 M0.out M1.out M2.out).mono ?_
    rw [HV.out]
    rintro e w1 ⟨rfl, hb1⟩
    replace HK := Lib.hid (HK.out.later hb1)
    go_wp2_with fail
    refine (l26Text_any a b c f ha hb hc w.heap.size _ HK.out.2).mono ?_
    rintro e w2 ⟨rfl, hb2⟩
    go_wp2_with fail
    go_ret
    exact ⟨by rw [← HS.out, matchX, HV.out]; rfl, (HK.out.later hb2).b⟩
  case false =>
    clear hq
    go_enter Tryd.func19, Tryd.ntmps19
    go_wp2_with fail
    refine (l26Match_any 12 11 a b c w.heap.size 0 _ wrap11 M0.out M1.out M2.out).mono ?_
    rw [HV.out]
    rintro e w1 ⟨rfl, hb1⟩
    replace HK := Lib.hid (HK.out.later hb1)
    go_wp2_with fail
    go_ret
    exact ⟨by rw [← HS.out, matchX, HV.out]; rfl, HK.out.b⟩
set_option maxHeartbeats 2000000 in
theorem fnExactMatchText_walk (a b c : Int) (f : Bool) (w : World) (ht : TabW w) : Calls Tryd.prog 6 #[.agg #[.int .i64 a, .int .i64 b, .int .i64 c, .bool f]] w fun e w' => e = .returned (.bool true) ∧ Below w.heap.size w w' := by
  obtain ⟨s, hs⟩ : ∃ s, matchX a b c f = s := ⟨_, rfl⟩
  have HS := Lib.hid hs
  clear hs
  have HT := Lib.hid ht
  have HK := Lib.hid ((Keeps.nil w).box (g := w.heap.size) rfl #[.int .i64 a, .int .i64 b, .int .i64 c, .bool f] 37)
  go_enter Tryd.func6, Tryd.ntmps6
  go_wp2_with fail
  refine (toMatch_any a b c f _).mono ?_
  rintro e w1 ⟨rfl, hb1⟩
  replace HK := Lib.hid (HK.out.later hb1)
  obtain ⟨_, ⟨hl0, hc0⟩, _⟩ := HK.out
  go_wp2_with fail
  refine (sMatchText_any a b c f s HS.out _).mono ?_
  rintro e w2 ⟨rfl, hb2⟩
  clear hl0 hc0
  replace HK := Lib.hid (HK.out.later hb2)
  obtain ⟨_, ⟨hl0, hc0⟩, _⟩ := HK.out
  go_wp2_with fail
  refine (toMatch_any a b c f _).mono ?_
  rintro e w3 ⟨rfl, hb3⟩
  clear hl0 hc0
  replace HK := Lib.hid (HK.out.later hb3)
  obtain ⟨_, ⟨hl0, hc0⟩, _⟩ := HK.out
  go_wp2_with fail
  refine (MatchText_any a b c f s HS.out _ (HT.out.later HK.out.b)).mono ?_
  rintro e w4 ⟨rfl, hb4⟩
  clear hl0 hc0
  replace HK := Lib.hid (HK.out.later hb4)
  go_wp2_with fail
  go_ret
  exact ⟨rfl, HK.out.b⟩
end Go.Proofs.YtggnajoocfmgpaaDoor
