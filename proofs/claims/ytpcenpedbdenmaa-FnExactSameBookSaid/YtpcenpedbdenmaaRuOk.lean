/- Valid rules, by both functions. No conditions. -/
import Derived.Test.YtpcenpedbdenmaaNum
import Derived.Test.YtpcenpedbdenmaaRules
namespace Go.Proofs.Ytpcenpedbdenmaa
set_option linter.unusedSimpArgs false
set_option linter.unusedVariables false
open Go.RowKit

def okRu (r : Ru) : Bool := inB r.p 2 8 && inB r.s 1 6 && inB r.ca 0 3 && inB r.sl 0 2 && (r.st || !r.ag)
/-- Rules that lie at a place. -/
structure RuAt (w : World) (b o : Nat) (r : Ru) : Prop where
  c0 : w.cell? ⟨b, o, none⟩ = some (.int .i64 r.p)
  c1 : w.cell? ⟨b, o + 1, none⟩ = some (.int .i64 r.s)
  c2 : w.cell? ⟨b, o + 2, none⟩ = some (.bool r.st)
  c3 : w.cell? ⟨b, o + 3, none⟩ = some (.bool r.sk)
  c4 : w.cell? ⟨b, o + 4, none⟩ = some (.bool r.re)
  c5 : w.cell? ⟨b, o + 5, none⟩ = some (.bool r.fe)
  c6 : w.cell? ⟨b, o + 6, none⟩ = some (.bool r.ag)
  c7 : w.cell? ⟨b, o + 7, none⟩ = some (.int .i64 r.ca)
  c8 : w.cell? ⟨b, o + 8, none⟩ = some (.int .i64 r.sl)
theorem RuAt.later {w w' : World} {b o : Nat} {r : Ru} (h : RuAt w b o r) (hb : Below w.heap.size w w') : RuAt w' b o r := by
  have hl := cell_lt h.c0
  exact ⟨(hb.cell (p := ⟨b, o, none⟩) hl).trans h.c0, (hb.cell (p := ⟨b, o + 1, none⟩) hl).trans h.c1, (hb.cell (p := ⟨b, o + 2, none⟩) hl).trans h.c2, (hb.cell (p := ⟨b, o + 3, none⟩) hl).trans h.c3, (hb.cell (p := ⟨b, o + 4, none⟩) hl).trans h.c4, (hb.cell (p := ⟨b, o + 5, none⟩) hl).trans h.c5, (hb.cell (p := ⟨b, o + 6, none⟩) hl).trans h.c6, (hb.cell (p := ⟨b, o + 7, none⟩) hl).trans h.c7, (hb.cell (p := ⟨b, o + 8, none⟩) hl).trans h.c8⟩
theorem RuAt.drewN {w : World} {b o : Nat} {r : Ru} (h : RuAt w b o r) (k : Nat) : RuAt (w.drewN k) b o r := ⟨h.c0, h.c1, h.c2, h.c3, h.c4, h.c5, h.c6, h.c7, h.c8⟩
theorem RuAt.drew {w : World} {b o : Nat} {r : Ru} (h : RuAt w b o r) : RuAt w.drew b o r := ⟨h.c0, h.c1, h.c2, h.c3, h.c4, h.c5, h.c6, h.c7, h.c8⟩
theorem RuAt.new (w : World) (t : TypeId) (r : Ru) (xs : List Value) : RuAt (w.alloc (.cells (([.int .i64 r.p, .int .i64 r.s, .bool r.st, .bool r.sk, .bool r.re, .bool r.fe, .bool r.ag, .int .i64 r.ca, .int .i64 r.sl] : List Value) ++ xs).toArray t)) w.heap.size 0 r :=
  have h := Blk.new w t (([.int .i64 r.p, .int .i64 r.s, .bool r.st, .bool r.sk, .bool r.re, .bool r.fe, .bool r.ag, .int .i64 r.ca, .int .i64 r.sl] : List Value) ++ xs).toArray
  ⟨h.cell 0, h.cell 1, h.cell 2, h.cell 3, h.cell 4, h.cell 5, h.cell 6, h.cell 7, h.cell 8⟩
theorem RuAt.box (w : World) (t : TypeId) (r : Ru) : RuAt (w.alloc (.cells #[.int .i64 r.p, .int .i64 r.s, .bool r.st, .bool r.sk, .bool r.re, .bool r.fe, .bool r.ag, .int .i64 r.ca, .int .i64 r.sl] t)) w.heap.size 0 r := RuAt.new w t r []
set_option maxHeartbeats 1000000 in
theorem ValidRules_lit (r : Ru) (w : World) : Calls Try.prog 43 #[.agg #[.int .i64 r.p, .int .i64 r.s, .bool r.st, .bool r.sk, .bool r.re, .bool r.fe, .bool r.ag, .int .i64 r.ca, .int .i64 r.sl]] w fun e w' => e = .returned (.bool (okRu r)) ∧ w' = w.alloc (.cells #[.int .i64 r.p, .int .i64 r.s, .bool r.st, .bool r.sk, .bool r.re, .bool r.fe, .bool r.ag, .int .i64 r.ca, .int .i64 r.sl] 24) := by
  obtain ⟨q, hq⟩ : ∃ q, okRu r = q := ⟨_, rfl⟩
  have HR := Lib.hid hq
  clear hq
  rw [HR.out]
  go_enter Try.func43, Try.ntmps43
  go_wp2_with (go_at_call 44; refine (between_any _ _ _ _).mono ?_; rintro e w_ ⟨rfl, rfl⟩)
  all_goals
    have h1 := HR.out
    simp only [okRu] at h1
    go_ret
    subst h1
    exact ⟨by simp [*], by first | rfl | simp [*]⟩
theorem ValidRules_any (r : Ru) (w : World) : Calls Try.prog 43 #[.agg #[.int .i64 r.p, .int .i64 r.s, .bool r.st, .bool r.sk, .bool r.re, .bool r.fe, .bool r.ag, .int .i64 r.ca, .int .i64 r.sl]] w fun e w' => e = .returned (.bool (okRu r)) ∧ Below w.heap.size w w' :=
  (ValidRules_lit r w).mono fun e w' ⟨he, hw⟩ => ⟨he, by subst hw; exact boxed_ _ _⟩
set_option maxHeartbeats 1000000 in
theorem l02Ok_any (r : Ru) (b o : Nat) (w : World) (h : RuAt w b o r) : Calls Try.prog 41 #[.pointer (some ⟨b, o, none⟩)] w fun e w' => e = .returned (.bool (okRu r)) ∧ w = w' := by
  obtain ⟨h0, h1, h2, h3, h4, h5, h6, h7, h8⟩ := h
  obtain ⟨q, hq⟩ : ∃ q, okRu r = q := ⟨_, rfl⟩
  have HR := Lib.hid hq
  clear hq
  rw [HR.out]
  go_enter Try.func41, Try.ntmps41
  go_wp2_with (go_at_call 42; refine (l00In_any _ _ _ _).mono ?_; rintro e w_ ⟨rfl, rfl⟩)
  all_goals
    have h1 := HR.out
    simp only [okRu] at h1
    go_ret
    refine ⟨?_, rfl⟩
    subst h1
    simp [*]
end Go.Proofs.Ytpcenpedbdenmaa
