/- Draws of round robins; lists of meetings compared. Conditions: at most 2^20 bytes. -/
import Derived.Test.YtlogcbiebpfmlaaDraw1
import Derived.Test.YtlogcbiebpfmlaaRobin
namespace Go.Proofs.Ytlogcbiebpfmlaa
set_option linter.unusedSimpArgs false
set_option linter.unusedVariables false
open Go.RowKit Go.WideShapes

def Big6 (n : Nat) (w : World) (e : Ending) (w' : World) : Prop := ∃ q, e = .returned (.bool q) ∧ (q = false → n ≤ 4096) ∧ w = w'
theorem f6big_any (A : Option Addr) (n c : Nat) (w : World) : Calls Try.prog 4 #[.slice A n c] w (Big6 n w) := by
  by_cases h : n ≤ 4096
  · have h2 : decide ((4096 : Int) < n) = false := decide_eq_false (by omega)
    go_enter Try.func4, Try.ntmps4
    go_wp2_with fail
    go_ret
    exact ⟨_, rfl, fun _ => h, rfl⟩
  · have h2 : decide ((4096 : Int) < n) = true := decide_eq_true (by omega)
    go_enter Try.func4, Try.ntmps4
    go_wp2_with fail
    go_ret
    exact ⟨true, rfl, fun h => by simp at h, rfl⟩
def NumP (b : Nat) (A : Option Addr) (n c M : Nat) (cs : List Int) (w : World) (e : Ending) (w' : World) : Prop :=
  ∃ x : Int, e = .returned (.int .i64 x) ∧ 0 ≤ x ∧ x ≤ 13 ∧ Src w' b A n c (M + 4) cs ∧ w.grownBy w' (some b)
set_option maxHeartbeats 2000000 in
theorem l24Number_any (b : Nat) (A : Option Addr) (n c M : Nat) (cs : List Int) (w : World) (h : Src w b A n c M cs) (hn : n ≤ 1048576) (hM : M ≤ 999999000) :
    Calls Try.prog 22 #[.pointer (some ⟨b, 0, none⟩)] w (NumP b A n c M cs w) := by
  have HS := Lib.hid h
  have hbl := h.lt
  clear h
  go_enter Try.func22, Try.ntmps22
  go_wp2_with fail
  refine (one_any b A n c M cs 10 _ HS.out hn (by omega) (by omega)).mono ?_
  rintro e w1 ⟨q, rfl, S1, g1⟩
  have HS1 := Lib.hid S1
  have HG1 := Lib.hid g1
  have z1 := g1.size
  clear S1 g1
  cases q
  case true =>
    have HS2 : Hid (Src (w1.alloc (.cells (([1, 2, 12, 13, 0] : List Int).map (Value.int .i64)).toArray 2)) b A n c (M + 2) cs) := HS1.out.later (Below.alloc (Below.refl _ _) (Nat.le_refl _) _)
    have HL : Hid (Sl (w1.alloc (.cells (([1, 2, 12, 13, 0] : List Int).map (Value.int .i64)).toArray 2)) (w1.alloc (.cells (([1, 2, 12, 13, 0] : List Int).map (Value.int .i64)).toArray 2)).heap.size 1 (some ⟨w1.heap.size, 0, none⟩) 5 (([1, 2, 12, 13, 0] : List Int).map (Value.int .i64))) := Sl.built rfl (by simp) (by rfl)
    go_wp2_with fail
    refine (among_any b A n c (M + 2) cs w1.heap.size 5 5 [1, 2, 12, 13, 0] _ HS2.out hn (by omega) HL.out (by omega) (by omega) (by omega)).mono ?_
    rintro e w2 ⟨v, rfl, hv, S2, g2⟩
    have hv2 : 0 ≤ v ∧ v ≤ 13 := by simp at hv; omega
    have HS3 := Lib.hid S2
    have HG2 := Lib.hid (grown_tr (grown_alloc HG1.out _) g2)
    clear S2 g2 hv
    go_wp2_with fail
    go_ret
    exact ⟨v, rfl, hv2.1, hv2.2, HS3.out, HG2.out⟩
  case false =>
    go_wp2_with fail
    refine (pick_any b A n c (M + 2) cs 7 _ HS1.out hn (by omega) (by omega)).mono ?_
    rintro e w2 ⟨x, rfl, hx0, hx1, -, S2, g2⟩
    have hx2 := hx1 (by omega)
    have HS3 := Lib.hid S2
    have HG2 := Lib.hid (grown_tr HG1.out g2)
    clear S2 g2 hx1
    go_wp2_with fail
    go_ret
    exact ⟨2 + x, rfl, by omega, by omega, HS3.out, HG2.out⟩
end Go.Proofs.Ytlogcbiebpfmlaa
