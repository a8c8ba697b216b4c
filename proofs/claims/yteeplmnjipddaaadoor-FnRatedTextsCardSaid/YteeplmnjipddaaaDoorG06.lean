/- FlawText and RatedText: both functions, and the laws. Conditions: the table of powers as it is laid. -/
import Derived.Test.YteeplmnjipddaaaDoorG01
import Derived.Test.YteeplmnjipddaaaDoorG05
import Derived.Test.YteeplmnjipddaaaDoorG04
/- A list of own blocks that are known, carried over calls that only make memory. No conditions. -/
namespace Go.Proofs.YteeplmnjipddaaaDoor
set_option linter.unusedSimpArgs false
set_option linter.unusedVariables false
open Go.RowKit Go.WideShapes Go.ChangeShapes

/-- Each named block holds its cells. -/
def Cells : World → List (Nat × Array Value) → Prop
  | _, [] => True
  | W, f :: fs => (f.1 < W.heap.size ∧ ∀ i, W.cell? ⟨f.1, i, none⟩ = f.2[i]?) ∧ Cells W fs
def Keeps (w W : World) (fs : List (Nat × Array Value)) : Prop := Below w.heap.size w W ∧ Cells W fs
theorem Cells.later {W W' : World} : ∀ {fs : List (Nat × Array Value)}, Cells W fs → Below W.heap.size W W' → Cells W' fs
  | [], _, _ => trivial
  | f :: fs, ⟨⟨hl, hc⟩, hr⟩, hb => ⟨⟨Nat.lt_of_lt_of_le hl hb.size, fun i => (hb.cell (p := ⟨f.1, i, none⟩) hl).trans (hc i)⟩, Cells.later hr hb⟩
theorem Cells.drew {W : World} : ∀ {fs : List (Nat × Array Value)}, Cells W fs → Cells W.drew fs
  | [], _ => trivial
  | _ :: _, ⟨h, hr⟩ => ⟨h, Cells.drew hr⟩
theorem Keeps.nil (w : World) : Keeps w w [] := ⟨Below.refl _ _, trivial⟩
theorem Keeps.b {w W : World} {fs : List (Nat × Array Value)} (h : Keeps w W fs) : Below w.heap.size w W := h.1
theorem Keeps.later {w W W' : World} {fs : List (Nat × Array Value)} (h : Keeps w W fs) (hb : Below W.heap.size W W') : Keeps w W' fs := ⟨Below.via hb h.1 h.1.size, h.2.later hb⟩
theorem Keeps.drew {w W : World} {fs : List (Nat × Array Value)} (h : Keeps w W fs) : Keeps w W.drew fs := ⟨belowDrewN h.1 1, h.2.drew⟩
theorem Keeps.boxed {w W : World} {fs : List (Nat × Array Value)} (h : Keeps w W fs) (o : Obj) : Keeps w (W.alloc o) fs := h.later (boxed_ W o)
theorem Keeps.box {w W : World} {fs : List (Nat × Array Value)} {g : Nat} (h : Keeps w W fs) (hg : g = W.heap.size) (cs : Array Value) (t : TypeId) : Keeps w (W.alloc (.cells cs t)) ((g, cs) :: fs) :=
  ⟨(h.boxed _).1, ⟨by subst hg; exact (Blk.new W t cs).lt, fun i => by subst hg; exact (Blk.new W t cs).cell i⟩, (h.boxed _).2⟩
theorem Keeps.drop {w W : World} {f : Nat × Array Value} {fs : List (Nat × Array Value)} (h : Keeps w W (f :: fs)) : Keeps w W fs := ⟨h.1, h.2.2⟩
end Go.Proofs.YteeplmnjipddaaaDoor
/- FlawText and RatedText: both functions, and the laws. Conditions: the table of powers as it is laid. -/
namespace Go.Proofs.YteeplmnjipddaaaDoor
set_option linter.unusedSimpArgs false
set_option linter.unusedVariables false
open Go.RowKit Go.WideShapes Go.ChangeShapes Go.Deep

theorem add_all (a b s : ByteArray) (h : a ++ b = s) (hs : a.size + b.size ≤ 9223372036854775807) : ∀ w, (Op.stringOp .add a b).run Tryd.prog w = .ok (.string s) w := by
  intro w
  rw [run_string_add_sum w a b hs, h]
theorem decS_size {n : Int} (h0 : -9223372036854775808 ≤ n) (h1 : n ≤ 9223372036854775807) : (decS n).size ≤ 21 := by
  have := Lib.itoa_length_le n h0 h1
  show (Lib.itoa n).toArray.size ≤ 21
  simpa using this
theorem flawS_size (k : Int) : (flawS k).size ≤ 6 := by
  unfold flawS
  split
  · decide
  · split
    · decide
    · split
      · decide
      · split
        · decide
        · split <;> decide
def flawT (a k : Int) : ByteArray := (decS a ++ ⟨#[32]⟩) ++ flawS k
def ratedT (a b : Int) : ByteArray := (decS a ++ ⟨#[47]⟩) ++ decS b
set_option maxRecDepth 100000 in
set_option maxHeartbeats 2000000 in
theorem l25Text_any (a b : Int) (a0 : -9223372036854775808 ≤ a) (a1 : a ≤ 9223372036854775807) (b0 : -9223372036854775808 ≤ b) (b1 : b ≤ 9223372036854775807) (s : ByteArray) (hs : ratedT a b = s) (w : World) :
    Calls Tryd.prog 23 #[.agg #[.int .i64 a, .int .i64 b]] w fun e w' => e = .returned (.string s) ∧ Below w.heap.size w w' := by
  obtain ⟨s0, e0⟩ : ∃ s, decS a = s := ⟨_, rfl⟩
  obtain ⟨s1, e1⟩ : ∃ s, s0 ++ (⟨#[47]⟩ : ByteArray) = s := ⟨_, rfl⟩
  obtain ⟨s2, e2⟩ : ∃ s, decS b = s := ⟨_, rfl⟩
  have z0 : s0.size ≤ 21 := by rw [← e0]; exact decS_size a0 a1
  have z2 : s2.size ≤ 21 := by rw [← e2]; exact decS_size b0 b1
  have z1 : s1.size ≤ 22 := by rw [← e1, ByteArray.size_append]; show _ + 1 ≤ 22; omega
  have hadd1 := add_all s0 ⟨#[47]⟩ s1 e1 (by show _ + 1 ≤ _; omega)
  have hadd2 := add_all s1 s2 s (by rw [← hs, ratedT, e0, e1, e2]) (by omega)
  have HD1 : Hid (∀ W, Below w.heap.size w W → Calls Tryd.prog 40 #[.int .i64 a] W fun e w' => e = .returned (.string s0) ∧ Below W.heap.size W w') := by
    intro W hbW
    rw [← e0]
    exact l01Dec_any a a0 a1 W
  have HD2 : Hid (∀ W, Below w.heap.size w W → Calls Tryd.prog 40 #[.int .i64 b] W fun e w' => e = .returned (.string s2) ∧ Below W.heap.size W w') := by
    intro W hbW
    rw [← e2]
    exact l01Dec_any b b0 b1 W
  clear z0 z1 z2 e0 e1 e2 hs a0 a1 b0 b1
  have HK := Lib.hid ((Keeps.nil w).box (g := w.heap.size) rfl #[.int .i64 a, .int .i64 b] 25)
  go_enter Tryd.func23, Tryd.ntmps23
  go_wp2_with fail
  refine wp_region_held_drew (S := (fun W => Keeps w W [(w.heap.size, #[.int .i64 a, .int .i64 b])])) (by kernel_rfl) ?_ (fun hHeld => ?_)
  focus ((try dsimp only); (first | (exact hHeld.later hb_) | (exact HK.out.drew) | (exact HK.out)))
  refine H_take (i := 0) (v := ?_) rfl (by kernel_rfl) (by kernel_rfl) (by kernel_rfl) (fun _ _ _ h => h) (by rfl) ?_ (by assumption) ?_
  rotate_left
  focus (intro w hSw; obtain ⟨_, ⟨hl0, hc0⟩, _⟩ := hSw; go_simp; first | done | with_reducible rfl | (trace_state; fail))
  try simp only [Act.put, List.setIfInBounds_toArray, List.set_cons_zero, List.set_cons_succ]
  refine H_take (i := 1) (v := ?_) rfl (by kernel_rfl) (by kernel_rfl) (by kernel_rfl) (fun _ _ _ h => h) (by rfl) ?_ (by assumption) ?_
  rotate_left
  focus (intro w hSw; obtain ⟨_, ⟨hl0, hc0⟩, _⟩ := hSw; go_simp; first | done | with_reducible rfl | (trace_state; fail))
  try simp only [Act.put, List.setIfInBounds_toArray, List.set_cons_zero, List.set_cons_succ]
  refine H_take (i := 4) (v := ?_) rfl (by kernel_rfl) (by kernel_rfl) (by kernel_rfl) (fun _ _ _ h => h) (by rfl) ?_ (by assumption) ?_
  rotate_left
  focus (intro w hSw; obtain ⟨_, ⟨hl0, hc0⟩, _⟩ := hSw; go_simp; first | done | with_reducible rfl | (trace_state; fail))
  try simp only [Act.put, List.setIfInBounds_toArray, List.set_cons_zero, List.set_cons_succ]
  refine H_take (i := 5) (v := ?_) rfl (by kernel_rfl) (by kernel_rfl) (by kernel_rfl) (fun _ _ _ h => h) (by rfl) ?_ (by assumption) ?_
  rotate_left
  focus (intro w hSw; obtain ⟨_, ⟨hl0, hc0⟩, _⟩ := hSw; go_simp; first | done | with_reducible rfl | (trace_state; fail))
  try simp only [Act.put, List.setIfInBounds_toArray, List.set_cons_zero, List.set_cons_succ]
  refine H_call (i := 2) rfl (by kernel_rfl) (fun K hK => ?_)
  go_simp
  (go_at_call 40; (with_reducible refine Calls.mono (HD1.out _ hHeld.b) ?_); rintro e v1 ⟨rfl, hb_⟩)
  refine hK.out _ _ ?_ (fun hHeld => ?_)
  focus ((try dsimp only); (first | (exact hHeld.later hb_) | (exact HK.out.drew) | (exact HK.out)))
  clear hK K
  try simp only [Act.put, List.setIfInBounds_toArray, List.set_cons_zero, List.set_cons_succ]
  refine H_take (i := 3) (v := ?_) rfl (by kernel_rfl) (by kernel_rfl) (by kernel_rfl) (fun _ _ _ h => h) (by rfl) ?_ (by assumption) ?_
  rotate_left
  focus (intro w hSw; obtain ⟨_, ⟨hl0, hc0⟩, _⟩ := hSw; go_simp; first | done | with_reducible rfl | (trace_state; fail))
  try simp only [Act.put, List.setIfInBounds_toArray, List.set_cons_zero, List.set_cons_succ]
  refine H_call (i := 6) rfl (by kernel_rfl) (fun K hK => ?_)
  go_simp
  (go_at_call 40; (with_reducible refine Calls.mono (HD2.out _ hHeld.b) ?_); rintro e v1 ⟨rfl, hb_⟩)
  refine hK.out _ _ ?_ (fun hHeld => ?_)
  focus ((try dsimp only); (first | (exact hHeld.later hb_) | (exact HK.out.drew) | (exact HK.out)))
  clear hK K
  try simp only [Act.put, List.setIfInBounds_toArray, List.set_cons_zero, List.set_cons_succ]
  refine H_take (i := 7) (v := ?_) rfl (by kernel_rfl) (by kernel_rfl) (by kernel_rfl) (fun _ _ _ h => h) (by rfl) ?_ (by assumption) ?_
  rotate_left
  focus (intro w hSw; obtain ⟨_, ⟨hl0, hc0⟩, _⟩ := hSw; go_simp; first | done | with_reducible rfl | (trace_state; fail))
  try simp only [Act.put, List.setIfInBounds_toArray, List.set_cons_zero, List.set_cons_succ]
  refine H_take (i := 8) (v := ?_) rfl (by kernel_rfl) (by kernel_rfl) (by kernel_rfl) (fun _ _ _ h => h) (by rfl) ?_ (by assumption) ?_
  rotate_left
  focus (intro w hSw; obtain ⟨_, ⟨hl0, hc0⟩, _⟩ := hSw; go_simp; first | done | with_reducible rfl | (trace_state; fail))
  try simp only [Act.put, List.setIfInBounds_toArray, List.set_cons_zero, List.set_cons_succ]
  refine wpAnyH_done (by kernel_rfl) ?_ _
  go_wp2_with fail
  go_ret
  exact ⟨rfl, hHeld.b⟩
set_option maxRecDepth 100000 in
set_option maxHeartbeats 2000000 in
theorem RatedText_ok (a b : Int) (a0 : -9223372036854775808 ≤ a) (a1 : a ≤ 9223372036854775807) (b0 : -9223372036854775808 ≤ b) (b1 : b ≤ 9223372036854775807) (s : ByteArray) (hs : ratedT a b = s) (w : World) (ht : TabW w) (hv : validB a b = true) :
    Calls Tryd.prog 6 #[.agg #[.int .i64 a, .int .i64 b]] w fun e w' => e = .returned (.string s) ∧ Below w.heap.size w w' := by
  obtain ⟨s0, e0⟩ : ∃ s, decS a = s := ⟨_, rfl⟩
  obtain ⟨s1, e1⟩ : ∃ s, s0 ++ (⟨#[47]⟩ : ByteArray) = s := ⟨_, rfl⟩
  obtain ⟨s2, e2⟩ : ∃ s, decS b = s := ⟨_, rfl⟩
  have z0 : s0.size ≤ 21 := by rw [← e0]; exact decS_size a0 a1
  have z2 : s2.size ≤ 21 := by rw [← e2]; exact decS_size b0 b1
  have z1 : s1.size ≤ 22 := by rw [← e1, ByteArray.size_append]; show _ + 1 ≤ 22; omega
  have hadd1 := add_all s0 ⟨#[47]⟩ s1 e1 (by show _ + 1 ≤ _; omega)
  have hadd2 := add_all s1 s2 s (by rw [← hs, ratedT, e0, e1, e2]) (by omega)
  have HD1 : Hid (∀ W, Below w.heap.size w W → Calls Tryd.prog 19 #[.int .i64 a] W fun e w' => e = .returned (.string s0) ∧ Below W.heap.size W w') := by
    intro W hbW
    rw [← e0]
    exact Decimal_any a a0 a1 W (ht.later hbW)
  have HD2 : Hid (∀ W, Below w.heap.size w W → Calls Tryd.prog 19 #[.int .i64 b] W fun e w' => e = .returned (.string s2) ∧ Below W.heap.size W w') := by
    intro W hbW
    rw [← e2]
    exact Decimal_any b b0 b1 W (ht.later hbW)
  clear z0 z1 z2 e0 e1 e2 hs a0 a1 b0 b1
  have HK := Lib.hid ((Keeps.nil w).box (g := w.heap.size) rfl #[.int .i64 a, .int .i64 b] 25)
  go_enter Tryd.func6, Tryd.ntmps6
  go_wp2_with fail
  refine (ValidRated_any a b _).mono ?_
  rw [hv]
  rintro e w1 ⟨rfl, hb1⟩
  replace HK := Lib.hid (HK.out.later hb1)
  obtain ⟨_, ⟨hl0, hc0⟩, _⟩ := HK.out
  go_wp2_with fail
  clear hl0 hc0
  refine wp_region_held_drew (S := (fun W => Keeps w W [(w.heap.size, #[.int .i64 a, .int .i64 b])])) (by kernel_rfl) ?_ (fun hHeld => ?_)
  focus ((try dsimp only); (first | (exact hHeld.later hb_) | (exact HK.out.drew) | (exact HK.out)))
  refine H_take (i := 0) (v := ?_) rfl (by kernel_rfl) (by kernel_rfl) (by kernel_rfl) (fun _ _ _ h => h) (by rfl) ?_ (by assumption) ?_
  rotate_left
  focus (intro w hSw; obtain ⟨_, ⟨hl0, hc0⟩, _⟩ := hSw; go_simp; first | done | with_reducible rfl | (trace_state; fail))
  try simp only [Act.put, List.setIfInBounds_toArray, List.set_cons_zero, List.set_cons_succ]
  refine H_take (i := 1) (v := ?_) rfl (by kernel_rfl) (by kernel_rfl) (by kernel_rfl) (fun _ _ _ h => h) (by rfl) ?_ (by assumption) ?_
  rotate_left
  focus (intro w hSw; obtain ⟨_, ⟨hl0, hc0⟩, _⟩ := hSw; go_simp; first | done | with_reducible rfl | (trace_state; fail))
  try simp only [Act.put, List.setIfInBounds_toArray, List.set_cons_zero, List.set_cons_succ]
  refine H_take (i := 4) (v := ?_) rfl (by kernel_rfl) (by kernel_rfl) (by kernel_rfl) (fun _ _ _ h => h) (by rfl) ?_ (by assumption) ?_
  rotate_left
  focus (intro w hSw; obtain ⟨_, ⟨hl0, hc0⟩, _⟩ := hSw; go_simp; first | done | with_reducible rfl | (trace_state; fail))
  try simp only [Act.put, List.setIfInBounds_toArray, List.set_cons_zero, List.set_cons_succ]
  refine H_take (i := 5) (v := ?_) rfl (by kernel_rfl) (by kernel_rfl) (by kernel_rfl) (fun _ _ _ h => h) (by rfl) ?_ (by assumption) ?_
  rotate_left
  focus (intro w hSw; obtain ⟨_, ⟨hl0, hc0⟩, _⟩ := hSw; go_simp; first | done | with_reducible rfl | (trace_state; fail))
  try simp only [Act.put, List.setIfInBounds_toArray, List.set_cons_zero, List.set_cons_succ]
  refine H_call (i := 2) rfl (by kernel_rfl) (fun K hK => ?_)
  go_simp
  (go_at_call 19; (with_reducible refine Calls.mono (HD1.out _ hHeld.b) ?_); rintro e v1 ⟨rfl, hb_⟩)
  refine hK.out _ _ ?_ (fun hHeld => ?_)
  focus ((try dsimp only); (first | (exact hHeld.later hb_) | (exact HK.out.drew) | (exact HK.out)))
  clear hK K
  try simp only [Act.put, List.setIfInBounds_toArray, List.set_cons_zero, List.set_cons_succ]
  refine H_take (i := 3) (v := ?_) rfl (by kernel_rfl) (by kernel_rfl) (by kernel_rfl) (fun _ _ _ h => h) (by rfl) ?_ (by assumption) ?_
  rotate_left
  focus (intro w hSw; obtain ⟨_, ⟨hl0, hc0⟩, _⟩ := hSw; go_simp; first | done | with_reducible rfl | (trace_state; fail))
  try simp only [Act.put, List.setIfInBounds_toArray, List.set_cons_zero, List.set_cons_succ]
  refine H_call (i := 6) rfl (by kernel_rfl) (fun K hK => ?_)
  go_simp
  (go_at_call 19; (with_reducible refine Calls.mono (HD2.out _ hHeld.b) ?_); rintro e v1 ⟨rfl, hb_⟩)
  refine hK.out _ _ ?_ (fun hHeld => ?_)
  focus ((try dsimp only); (first | (exact hHeld.later hb_) | (exact HK.out.drew) | (exact HK.out)))
  clear hK K
  try simp only [Act.put, List.setIfInBounds_toArray, List.set_cons_zero, List.set_cons_succ]
  refine H_take (i := 7) (v := ?_) rfl (by kernel_rfl) (by kernel_rfl) (by kernel_rfl) (fun _ _ _ h => h) (by rfl) ?_ (by assumption) ?_
  rotate_left
  focus (intro w hSw; obtain ⟨_, ⟨hl0, hc0⟩, _⟩ := hSw; go_simp; first | done | with_reducible rfl | (trace_state; fail))
  try simp only [Act.put, List.setIfInBounds_toArray, List.set_cons_zero, List.set_cons_succ]
  refine H_take (i := 8) (v := ?_) rfl (by kernel_rfl) (by kernel_rfl) (by kernel_rfl) (fun _ _ _ h => h) (by rfl) ?_ (by assumption) ?_
  rotate_left
  focus (intro w hSw; obtain ⟨_, ⟨hl0, hc0⟩, _⟩ := hSw; go_simp; first | done | with_reducible rfl | (trace_state; fail))
  try simp only [Act.put, List.setIfInBounds_toArray, List.set_cons_zero, List.set_cons_succ]
  refine wpAnyH_done (by kernel_rfl) ?_ _
  go_wp2_with fail
  go_ret
  exact ⟨rfl, hHeld.b⟩
def ratedX (a b : Int) : ByteArray := if validB a b then ratedT a b else ⟨#[]⟩
theorem validB_bd {a b : Int} (h : validB a b = true) : -9223372036854775808 ≤ a ∧ a ≤ 9223372036854775807 ∧ -9223372036854775808 ≤ b ∧ b ≤ 9223372036854775807 := by
  simp only [validB, Bool.and_eq_true] at h
  have h1 := inB_of h.1
  have h2 := inB_of h.2
  omega
theorem RatedText_any (a b : Int) (s : ByteArray) (hs : ratedX a b = s) (w : World) (ht : TabW w) :
    Calls Tryd.prog 6 #[.agg #[.int .i64 a, .int .i64 b]] w fun e w' => e = .returned (.string s) ∧ Below w.heap.size w w' := by
  cases hv : validB a b
  case true =>
    obtain ⟨a0, a1, b0, b1⟩ := validB_bd hv
    exact RatedText_ok a b a0 a1 b0 b1 s (by rw [← hs, ratedX, hv]; rfl) w ht hv
  case false =>
    have HE : Hid (⟨#[]⟩ = s) := by unfold Hid; rw [← hs, ratedX, hv]; rfl
    clear hs
    have HV := Lib.hid hv
    clear hv
    go_enter Tryd.func6, Tryd.ntmps6
    go_wp2_with (go_at_call 15; (with_reducible refine Calls.mono (ValidRated_any a b _) ?_); rw [HV.out]; rintro e w1 ⟨rfl, hb1⟩)
    go_ret
    exact ⟨ret_string HE.out, by (repeat' (first | (with_reducible exact Below.refl _ _) | (with_reducible assumption) | (with_reducible refine Below.alloc ?_ ?_ _) | (with_reducible refine Below.drew ?_) | (with_reducible refine belowDrewN ?_ _) | (with_reducible refine Below.setCell ?_ ?_ _) | (with_reducible refine Below.via (by with_reducible assumption) ?_ ?_) | (with_reducible refine Below.viaD (by with_reducible assumption) ?_ ?_) | (with_reducible exact Below.size (by with_reducible assumption)) | go_size | (with_reducible refine Nat.le_trans ?_ (Below.size (by with_reducible assumption))) | (with_reducible refine Nat.le_trans ?_ (sizeAlloc _ _)) | (with_reducible refine Nat.le_trans ?_ (sizeSet _ _ _)) | (with_reducible refine Nat.le_trans ?_ (sizeDrew _))))⟩
theorem sRatedText_any (a b : Int) (s : ByteArray) (hs : ratedX a b = s) (w : World) :
    Calls Tryd.prog 13 #[.agg #[.int .i64 a, .int .i64 b]] w fun e w' => e = .returned (.string s) ∧ Below w.heap.size w w' := by
  cases hv : validB a b
  case true =>
    obtain ⟨a0, a1, b0, b1⟩ := validB_bd hv
    have HS : Hid (ratedT a b = s) := by unfold Hid; rw [← hs, ratedX, hv]; rfl
    clear hs
    have HV := Lib.hid hv
    clear hv
    have HK := Lib.hid ((Keeps.nil w).box (g := w.heap.size) rfl #[.int .i64 a, .int .i64 b] 25)
    go_enter Tryd.func13, Tryd.ntmps13
    go_wp2_with fail
    refine (l25Ok_any a b _).mono ?_
    rw [HV.out]
    rintro e w1 ⟨rfl, hb1⟩
    replace HK := Lib.hid (HK.out.later hb1)
    obtain ⟨_, ⟨hl0, hc0⟩, _⟩ := HK.out
    go_wp2_with fail
    refine (l25Text_any a b a0 a1 b0 b1 s HS.out _).mono ?_
    rintro e w2 ⟨rfl, hb2⟩
    go_wp2_with fail
    go_ret
    exact ⟨rfl, (HK.out.later hb2).b⟩
  case false =>
    have HE : Hid (⟨#[]⟩ = s) := by unfold Hid; rw [← hs, ratedX, hv]; rfl
    clear hs
    have HV := Lib.hid hv
    clear hv
    go_enter Tryd.func13, Tryd.ntmps13
    go_wp2_with (go_at_call 26; (with_reducible refine Calls.mono (l25Ok_any a b _) ?_); rw [HV.out]; rintro e w1 ⟨rfl, hb1⟩)
    go_ret
    exact ⟨ret_string HE.out, by (repeat' (first | (with_reducible exact Below.refl _ _) | (with_reducible assumption) | (with_reducible refine Below.alloc ?_ ?_ _) | (with_reducible refine Below.drew ?_) | (with_reducible refine belowDrewN ?_ _) | (with_reducible refine Below.setCell ?_ ?_ _) | (with_reducible refine Below.via (by with_reducible assumption) ?_ ?_) | (with_reducible refine Below.viaD (by with_reducible assumption) ?_ ?_) | (with_reducible exact Below.size (by with_reducible assumption)) | go_size | (with_reducible refine Nat.le_trans ?_ (Below.size (by with_reducible assumption))) | (with_reducible refine Nat.le_trans ?_ (sizeAlloc _ _)) | (with_reducible refine Nat.le_trans ?_ (sizeSet _ _ _)) | (with_reducible refine Nat.le_trans ?_ (sizeDrew _))))⟩
end Go.Proofs.YteeplmnjipddaaaDoor
