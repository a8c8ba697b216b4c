/- Captures: copies of lists, and the seeds behind the captures as plain data. Conditions: lengths below 2^20. -/
import Derived.Test.YtcfbihponecblaaG19
import Derived.Test.YtcfbihponecblaaG01
/- Captures: the law's own copies of seeds, and the boxes of a law over rules and seeds. Conditions: lengths below 2^20. -/
namespace Go.Proofs.Ytcfbihponecblaa
set_option linter.unusedSimpArgs false
set_option linter.unusedVariables false
open Go.RowKit

theorem so_keep {w W W' : World} {r : Ru} {v1 v2 v3 v4 : Value} (h : (W.cell? ⟨w.heap.size, 0, none⟩ = some (.int .i64 r.p) ∧ W.cell? ⟨w.heap.size, 1, none⟩ = some (.int .i64 r.s) ∧ W.cell? ⟨w.heap.size, 2, none⟩ = some (.bool r.st) ∧ W.cell? ⟨w.heap.size, 3, none⟩ = some (.bool r.sk) ∧ W.cell? ⟨w.heap.size, 4, none⟩ = some (.bool r.re) ∧ W.cell? ⟨w.heap.size, 5, none⟩ = some (.bool r.fe) ∧ W.cell? ⟨w.heap.size, 6, none⟩ = some (.bool r.ag) ∧ W.cell? ⟨w.heap.size, 7, none⟩ = some (.int .i64 r.ca) ∧ W.cell? ⟨w.heap.size, 8, none⟩ = some (.int .i64 r.sl)) ∧ (W.cell? ⟨w.heap.size + 1, 0, none⟩ = some (v1) ∧ W.cell? ⟨w.heap.size + 1, 1, none⟩ = some (v2) ∧ W.cell? ⟨w.heap.size + 1, 2, none⟩ = some (v3) ∧ W.cell? ⟨w.heap.size + 1, 3, none⟩ = some (v4)) ∧ Below w.heap.size w W) (hb : Below W.heap.size W W') : (W'.cell? ⟨w.heap.size, 0, none⟩ = some (.int .i64 r.p) ∧ W'.cell? ⟨w.heap.size, 1, none⟩ = some (.int .i64 r.s) ∧ W'.cell? ⟨w.heap.size, 2, none⟩ = some (.bool r.st) ∧ W'.cell? ⟨w.heap.size, 3, none⟩ = some (.bool r.sk) ∧ W'.cell? ⟨w.heap.size, 4, none⟩ = some (.bool r.re) ∧ W'.cell? ⟨w.heap.size, 5, none⟩ = some (.bool r.fe) ∧ W'.cell? ⟨w.heap.size, 6, none⟩ = some (.bool r.ag) ∧ W'.cell? ⟨w.heap.size, 7, none⟩ = some (.int .i64 r.ca) ∧ W'.cell? ⟨w.heap.size, 8, none⟩ = some (.int .i64 r.sl)) ∧ (W'.cell? ⟨w.heap.size + 1, 0, none⟩ = some (v1) ∧ W'.cell? ⟨w.heap.size + 1, 1, none⟩ = some (v2) ∧ W'.cell? ⟨w.heap.size + 1, 2, none⟩ = some (v3) ∧ W'.cell? ⟨w.heap.size + 1, 3, none⟩ = some (v4)) ∧ Below w.heap.size w W' := by
  obtain ⟨⟨a0, a1, a2, a3, a4, a5, a6, a7, a8⟩, ⟨b0, b1, b2, b3⟩, hB⟩ := h
  have l0 := cell_lt a0
  have l1 := cell_lt b0
  exact ⟨⟨(hb.cell (p := ⟨_, _, none⟩) l0).trans a0, (hb.cell (p := ⟨_, _, none⟩) l0).trans a1, (hb.cell (p := ⟨_, _, none⟩) l0).trans a2, (hb.cell (p := ⟨_, _, none⟩) l0).trans a3, (hb.cell (p := ⟨_, _, none⟩) l0).trans a4, (hb.cell (p := ⟨_, _, none⟩) l0).trans a5, (hb.cell (p := ⟨_, _, none⟩) l0).trans a6, (hb.cell (p := ⟨_, _, none⟩) l0).trans a7, (hb.cell (p := ⟨_, _, none⟩) l0).trans a8⟩, ⟨(hb.cell (p := ⟨_, _, none⟩) l1).trans b0, (hb.cell (p := ⟨_, _, none⟩) l1).trans b1, (hb.cell (p := ⟨_, _, none⟩) l1).trans b2, (hb.cell (p := ⟨_, _, none⟩) l1).trans b3⟩, Below.via hb hB hB.size⟩
theorem so_drew {w W : World} {r : Ru} {v1 v2 v3 v4 : Value} (h : (W.cell? ⟨w.heap.size, 0, none⟩ = some (.int .i64 r.p) ∧ W.cell? ⟨w.heap.size, 1, none⟩ = some (.int .i64 r.s) ∧ W.cell? ⟨w.heap.size, 2, none⟩ = some (.bool r.st) ∧ W.cell? ⟨w.heap.size, 3, none⟩ = some (.bool r.sk) ∧ W.cell? ⟨w.heap.size, 4, none⟩ = some (.bool r.re) ∧ W.cell? ⟨w.heap.size, 5, none⟩ = some (.bool r.fe) ∧ W.cell? ⟨w.heap.size, 6, none⟩ = some (.bool r.ag) ∧ W.cell? ⟨w.heap.size, 7, none⟩ = some (.int .i64 r.ca) ∧ W.cell? ⟨w.heap.size, 8, none⟩ = some (.int .i64 r.sl)) ∧ (W.cell? ⟨w.heap.size + 1, 0, none⟩ = some (v1) ∧ W.cell? ⟨w.heap.size + 1, 1, none⟩ = some (v2) ∧ W.cell? ⟨w.heap.size + 1, 2, none⟩ = some (v3) ∧ W.cell? ⟨w.heap.size + 1, 3, none⟩ = some (v4)) ∧ Below w.heap.size w W) : (W.drew.cell? ⟨w.heap.size, 0, none⟩ = some (.int .i64 r.p) ∧ W.drew.cell? ⟨w.heap.size, 1, none⟩ = some (.int .i64 r.s) ∧ W.drew.cell? ⟨w.heap.size, 2, none⟩ = some (.bool r.st) ∧ W.drew.cell? ⟨w.heap.size, 3, none⟩ = some (.bool r.sk) ∧ W.drew.cell? ⟨w.heap.size, 4, none⟩ = some (.bool r.re) ∧ W.drew.cell? ⟨w.heap.size, 5, none⟩ = some (.bool r.fe) ∧ W.drew.cell? ⟨w.heap.size, 6, none⟩ = some (.bool r.ag) ∧ W.drew.cell? ⟨w.heap.size, 7, none⟩ = some (.int .i64 r.ca) ∧ W.drew.cell? ⟨w.heap.size, 8, none⟩ = some (.int .i64 r.sl)) ∧ (W.drew.cell? ⟨w.heap.size + 1, 0, none⟩ = some (v1) ∧ W.drew.cell? ⟨w.heap.size + 1, 1, none⟩ = some (v2) ∧ W.drew.cell? ⟨w.heap.size + 1, 2, none⟩ = some (v3) ∧ W.drew.cell? ⟨w.heap.size + 1, 3, none⟩ = some (v4)) ∧ Below w.heap.size w W.drew := h.imp id (And.imp id (fun hB => Below.drew hB))
theorem so_start (w : World) (r : Ru) (v1 v2 v3 v4 : Value) (t t' : TypeId) : (((w.alloc (.cells #[.int .i64 r.p, .int .i64 r.s, .bool r.st, .bool r.sk, .bool r.re, .bool r.fe, .bool r.ag, .int .i64 r.ca, .int .i64 r.sl] t)).alloc (.cells #[v1, v2, v3, v4] t')).cell? ⟨w.heap.size, 0, none⟩ = some (.int .i64 r.p) ∧ ((w.alloc (.cells #[.int .i64 r.p, .int .i64 r.s, .bool r.st, .bool r.sk, .bool r.re, .bool r.fe, .bool r.ag, .int .i64 r.ca, .int .i64 r.sl] t)).alloc (.cells #[v1, v2, v3, v4] t')).cell? ⟨w.heap.size, 1, none⟩ = some (.int .i64 r.s) ∧ ((w.alloc (.cells #[.int .i64 r.p, .int .i64 r.s, .bool r.st, .bool r.sk, .bool r.re, .bool r.fe, .bool r.ag, .int .i64 r.ca, .int .i64 r.sl] t)).alloc (.cells #[v1, v2, v3, v4] t')).cell? ⟨w.heap.size, 2, none⟩ = some (.bool r.st) ∧ ((w.alloc (.cells #[.int .i64 r.p, .int .i64 r.s, .bool r.st, .bool r.sk, .bool r.re, .bool r.fe, .bool r.ag, .int .i64 r.ca, .int .i64 r.sl] t)).alloc (.cells #[v1, v2, v3, v4] t')).cell? ⟨w.heap.size, 3, none⟩ = some (.bool r.sk) ∧ ((w.alloc (.cells #[.int .i64 r.p, .int .i64 r.s, .bool r.st, .bool r.sk, .bool r.re, .bool r.fe, .bool r.ag, .int .i64 r.ca, .int .i64 r.sl] t)).alloc (.cells #[v1, v2, v3, v4] t')).cell? ⟨w.heap.size, 4, none⟩ = some (.bool r.re) ∧ ((w.alloc (.cells #[.int .i64 r.p, .int .i64 r.s, .bool r.st, .bool r.sk, .bool r.re, .bool r.fe, .bool r.ag, .int .i64 r.ca, .int .i64 r.sl] t)).alloc (.cells #[v1, v2, v3, v4] t')).cell? ⟨w.heap.size, 5, none⟩ = some (.bool r.fe) ∧ ((w.alloc (.cells #[.int .i64 r.p, .int .i64 r.s, .bool r.st, .bool r.sk, .bool r.re, .bool r.fe, .bool r.ag, .int .i64 r.ca, .int .i64 r.sl] t)).alloc (.cells #[v1, v2, v3, v4] t')).cell? ⟨w.heap.size, 6, none⟩ = some (.bool r.ag) ∧ ((w.alloc (.cells #[.int .i64 r.p, .int .i64 r.s, .bool r.st, .bool r.sk, .bool r.re, .bool r.fe, .bool r.ag, .int .i64 r.ca, .int .i64 r.sl] t)).alloc (.cells #[v1, v2, v3, v4] t')).cell? ⟨w.heap.size, 7, none⟩ = some (.int .i64 r.ca) ∧ ((w.alloc (.cells #[.int .i64 r.p, .int .i64 r.s, .bool r.st, .bool r.sk, .bool r.re, .bool r.fe, .bool r.ag, .int .i64 r.ca, .int .i64 r.sl] t)).alloc (.cells #[v1, v2, v3, v4] t')).cell? ⟨w.heap.size, 8, none⟩ = some (.int .i64 r.sl)) ∧ (((w.alloc (.cells #[.int .i64 r.p, .int .i64 r.s, .bool r.st, .bool r.sk, .bool r.re, .bool r.fe, .bool r.ag, .int .i64 r.ca, .int .i64 r.sl] t)).alloc (.cells #[v1, v2, v3, v4] t')).cell? ⟨w.heap.size + 1, 0, none⟩ = some (v1) ∧ ((w.alloc (.cells #[.int .i64 r.p, .int .i64 r.s, .bool r.st, .bool r.sk, .bool r.re, .bool r.fe, .bool r.ag, .int .i64 r.ca, .int .i64 r.sl] t)).alloc (.cells #[v1, v2, v3, v4] t')).cell? ⟨w.heap.size + 1, 1, none⟩ = some (v2) ∧ ((w.alloc (.cells #[.int .i64 r.p, .int .i64 r.s, .bool r.st, .bool r.sk, .bool r.re, .bool r.fe, .bool r.ag, .int .i64 r.ca, .int .i64 r.sl] t)).alloc (.cells #[v1, v2, v3, v4] t')).cell? ⟨w.heap.size + 1, 2, none⟩ = some (v3) ∧ ((w.alloc (.cells #[.int .i64 r.p, .int .i64 r.s, .bool r.st, .bool r.sk, .bool r.re, .bool r.fe, .bool r.ag, .int .i64 r.ca, .int .i64 r.sl] t)).alloc (.cells #[v1, v2, v3, v4] t')).cell? ⟨w.heap.size + 1, 3, none⟩ = some (v4)) ∧ Below w.heap.size w ((w.alloc (.cells #[.int .i64 r.p, .int .i64 r.s, .bool r.st, .bool r.sk, .bool r.re, .bool r.fe, .bool r.ag, .int .i64 r.ca, .int .i64 r.sl] t)).alloc (.cells #[v1, v2, v3, v4] t')) := by
  have RA := (RuAt.box w t r).later (boxed_ _ (.cells #[v1, v2, v3, v4] t'))
  have PK := Blk.new (w.alloc (.cells #[.int .i64 r.p, .int .i64 r.s, .bool r.st, .bool r.sk, .bool r.re, .bool r.fe, .bool r.ag, .int .i64 r.ca, .int .i64 r.sl] t)) t' #[v1, v2, v3, v4]
  rw [World.size_alloc] at PK
  exact ⟨⟨RA.c0, RA.c1, RA.c2, RA.c3, RA.c4, RA.c5, RA.c6, RA.c7, RA.c8⟩, ⟨PK.cell 0, PK.cell 1, PK.cell 2, PK.cell 3⟩, below_boxed (boxed_ _ _)⟩
theorem box4_keepC {W W' : World} {g : Nat} {u1 u2 u3 u4 : Value} (h : (W.cell? ⟨g, 0, none⟩ = some (u1) ∧ W.cell? ⟨g, 1, none⟩ = some (u2) ∧ W.cell? ⟨g, 2, none⟩ = some (u3) ∧ W.cell? ⟨g, 3, none⟩ = some (u4))) (hb : Below W.heap.size W W') : (W'.cell? ⟨g, 0, none⟩ = some (u1) ∧ W'.cell? ⟨g, 1, none⟩ = some (u2) ∧ W'.cell? ⟨g, 2, none⟩ = some (u3) ∧ W'.cell? ⟨g, 3, none⟩ = some (u4)) := by
  obtain ⟨a0, a1, a2, a3⟩ := h
  have l0 := cell_lt a0
  exact ⟨(hb.cell (p := ⟨_, _, none⟩) l0).trans a0, (hb.cell (p := ⟨_, _, none⟩) l0).trans a1, (hb.cell (p := ⟨_, _, none⟩) l0).trans a2, (hb.cell (p := ⟨_, _, none⟩) l0).trans a3⟩
theorem sob_keep {w w6 W W' : World} {r : Ru} {v1 v2 v3 v4 u1 u2 u3 u4 : Value} (h : ((W.cell? ⟨w.heap.size, 0, none⟩ = some (.int .i64 r.p) ∧ W.cell? ⟨w.heap.size, 1, none⟩ = some (.int .i64 r.s) ∧ W.cell? ⟨w.heap.size, 2, none⟩ = some (.bool r.st) ∧ W.cell? ⟨w.heap.size, 3, none⟩ = some (.bool r.sk) ∧ W.cell? ⟨w.heap.size, 4, none⟩ = some (.bool r.re) ∧ W.cell? ⟨w.heap.size, 5, none⟩ = some (.bool r.fe) ∧ W.cell? ⟨w.heap.size, 6, none⟩ = some (.bool r.ag) ∧ W.cell? ⟨w.heap.size, 7, none⟩ = some (.int .i64 r.ca) ∧ W.cell? ⟨w.heap.size, 8, none⟩ = some (.int .i64 r.sl)) ∧ (W.cell? ⟨w.heap.size + 1, 0, none⟩ = some (v1) ∧ W.cell? ⟨w.heap.size + 1, 1, none⟩ = some (v2) ∧ W.cell? ⟨w.heap.size + 1, 2, none⟩ = some (v3) ∧ W.cell? ⟨w.heap.size + 1, 3, none⟩ = some (v4)) ∧ Below w.heap.size w W) ∧ (W.cell? ⟨w6.heap.size, 0, none⟩ = some (u1) ∧ W.cell? ⟨w6.heap.size, 1, none⟩ = some (u2) ∧ W.cell? ⟨w6.heap.size, 2, none⟩ = some (u3) ∧ W.cell? ⟨w6.heap.size, 3, none⟩ = some (u4)) ∧ Below w6.heap.size w6 W) (hb : Below W.heap.size W W') : ((W'.cell? ⟨w.heap.size, 0, none⟩ = some (.int .i64 r.p) ∧ W'.cell? ⟨w.heap.size, 1, none⟩ = some (.int .i64 r.s) ∧ W'.cell? ⟨w.heap.size, 2, none⟩ = some (.bool r.st) ∧ W'.cell? ⟨w.heap.size, 3, none⟩ = some (.bool r.sk) ∧ W'.cell? ⟨w.heap.size, 4, none⟩ = some (.bool r.re) ∧ W'.cell? ⟨w.heap.size, 5, none⟩ = some (.bool r.fe) ∧ W'.cell? ⟨w.heap.size, 6, none⟩ = some (.bool r.ag) ∧ W'.cell? ⟨w.heap.size, 7, none⟩ = some (.int .i64 r.ca) ∧ W'.cell? ⟨w.heap.size, 8, none⟩ = some (.int .i64 r.sl)) ∧ (W'.cell? ⟨w.heap.size + 1, 0, none⟩ = some (v1) ∧ W'.cell? ⟨w.heap.size + 1, 1, none⟩ = some (v2) ∧ W'.cell? ⟨w.heap.size + 1, 2, none⟩ = some (v3) ∧ W'.cell? ⟨w.heap.size + 1, 3, none⟩ = some (v4)) ∧ Below w.heap.size w W') ∧ (W'.cell? ⟨w6.heap.size, 0, none⟩ = some (u1) ∧ W'.cell? ⟨w6.heap.size, 1, none⟩ = some (u2) ∧ W'.cell? ⟨w6.heap.size, 2, none⟩ = some (u3) ∧ W'.cell? ⟨w6.heap.size, 3, none⟩ = some (u4)) ∧ Below w6.heap.size w6 W' := ⟨so_keep h.1 hb, box4_keepC h.2.1 hb, Below.via hb h.2.2 h.2.2.size⟩
theorem sob_drew {w w6 W : World} {r : Ru} {v1 v2 v3 v4 u1 u2 u3 u4 : Value} (h : ((W.cell? ⟨w.heap.size, 0, none⟩ = some (.int .i64 r.p) ∧ W.cell? ⟨w.heap.size, 1, none⟩ = some (.int .i64 r.s) ∧ W.cell? ⟨w.heap.size, 2, none⟩ = some (.bool r.st) ∧ W.cell? ⟨w.heap.size, 3, none⟩ = some (.bool r.sk) ∧ W.cell? ⟨w.heap.size, 4, none⟩ = some (.bool r.re) ∧ W.cell? ⟨w.heap.size, 5, none⟩ = some (.bool r.fe) ∧ W.cell? ⟨w.heap.size, 6, none⟩ = some (.bool r.ag) ∧ W.cell? ⟨w.heap.size, 7, none⟩ = some (.int .i64 r.ca) ∧ W.cell? ⟨w.heap.size, 8, none⟩ = some (.int .i64 r.sl)) ∧ (W.cell? ⟨w.heap.size + 1, 0, none⟩ = some (v1) ∧ W.cell? ⟨w.heap.size + 1, 1, none⟩ = some (v2) ∧ W.cell? ⟨w.heap.size + 1, 2, none⟩ = some (v3) ∧ W.cell? ⟨w.heap.size + 1, 3, none⟩ = some (v4)) ∧ Below w.heap.size w W) ∧ (W.cell? ⟨w6.heap.size, 0, none⟩ = some (u1) ∧ W.cell? ⟨w6.heap.size, 1, none⟩ = some (u2) ∧ W.cell? ⟨w6.heap.size, 2, none⟩ = some (u3) ∧ W.cell? ⟨w6.heap.size, 3, none⟩ = some (u4)) ∧ Below w6.heap.size w6 W) : ((W.drew.cell? ⟨w.heap.size, 0, none⟩ = some (.int .i64 r.p) ∧ W.drew.cell? ⟨w.heap.size, 1, none⟩ = some (.int .i64 r.s) ∧ W.drew.cell? ⟨w.heap.size, 2, none⟩ = some (.bool r.st) ∧ W.drew.cell? ⟨w.heap.size, 3, none⟩ = some (.bool r.sk) ∧ W.drew.cell? ⟨w.heap.size, 4, none⟩ = some (.bool r.re) ∧ W.drew.cell? ⟨w.heap.size, 5, none⟩ = some (.bool r.fe) ∧ W.drew.cell? ⟨w.heap.size, 6, none⟩ = some (.bool r.ag) ∧ W.drew.cell? ⟨w.heap.size, 7, none⟩ = some (.int .i64 r.ca) ∧ W.drew.cell? ⟨w.heap.size, 8, none⟩ = some (.int .i64 r.sl)) ∧ (W.drew.cell? ⟨w.heap.size + 1, 0, none⟩ = some (v1) ∧ W.drew.cell? ⟨w.heap.size + 1, 1, none⟩ = some (v2) ∧ W.drew.cell? ⟨w.heap.size + 1, 2, none⟩ = some (v3) ∧ W.drew.cell? ⟨w.heap.size + 1, 3, none⟩ = some (v4)) ∧ Below w.heap.size w W.drew) ∧ (W.drew.cell? ⟨w6.heap.size, 0, none⟩ = some (u1) ∧ W.drew.cell? ⟨w6.heap.size, 1, none⟩ = some (u2) ∧ W.drew.cell? ⟨w6.heap.size, 2, none⟩ = some (u3) ∧ W.drew.cell? ⟨w6.heap.size, 3, none⟩ = some (u4)) ∧ Below w6.heap.size w6 W.drew := ⟨so_drew h.1, h.2.1, Below.drew h.2.2⟩
theorem sob_start {w w6 : World} {r : Ru} {v1 v2 v3 v4 u1 u2 u3 u4 : Value} (t : TypeId) (h : (w6.cell? ⟨w.heap.size, 0, none⟩ = some (.int .i64 r.p) ∧ w6.cell? ⟨w.heap.size, 1, none⟩ = some (.int .i64 r.s) ∧ w6.cell? ⟨w.heap.size, 2, none⟩ = some (.bool r.st) ∧ w6.cell? ⟨w.heap.size, 3, none⟩ = some (.bool r.sk) ∧ w6.cell? ⟨w.heap.size, 4, none⟩ = some (.bool r.re) ∧ w6.cell? ⟨w.heap.size, 5, none⟩ = some (.bool r.fe) ∧ w6.cell? ⟨w.heap.size, 6, none⟩ = some (.bool r.ag) ∧ w6.cell? ⟨w.heap.size, 7, none⟩ = some (.int .i64 r.ca) ∧ w6.cell? ⟨w.heap.size, 8, none⟩ = some (.int .i64 r.sl)) ∧ (w6.cell? ⟨w.heap.size + 1, 0, none⟩ = some (v1) ∧ w6.cell? ⟨w.heap.size + 1, 1, none⟩ = some (v2) ∧ w6.cell? ⟨w.heap.size + 1, 2, none⟩ = some (v3) ∧ w6.cell? ⟨w.heap.size + 1, 3, none⟩ = some (v4)) ∧ Below w.heap.size w w6) : (((w6.alloc (.cells #[u1, u2, u3, u4] t)).cell? ⟨w.heap.size, 0, none⟩ = some (.int .i64 r.p) ∧ (w6.alloc (.cells #[u1, u2, u3, u4] t)).cell? ⟨w.heap.size, 1, none⟩ = some (.int .i64 r.s) ∧ (w6.alloc (.cells #[u1, u2, u3, u4] t)).cell? ⟨w.heap.size, 2, none⟩ = some (.bool r.st) ∧ (w6.alloc (.cells #[u1, u2, u3, u4] t)).cell? ⟨w.heap.size, 3, none⟩ = some (.bool r.sk) ∧ (w6.alloc (.cells #[u1, u2, u3, u4] t)).cell? ⟨w.heap.size, 4, none⟩ = some (.bool r.re) ∧ (w6.alloc (.cells #[u1, u2, u3, u4] t)).cell? ⟨w.heap.size, 5, none⟩ = some (.bool r.fe) ∧ (w6.alloc (.cells #[u1, u2, u3, u4] t)).cell? ⟨w.heap.size, 6, none⟩ = some (.bool r.ag) ∧ (w6.alloc (.cells #[u1, u2, u3, u4] t)).cell? ⟨w.heap.size, 7, none⟩ = some (.int .i64 r.ca) ∧ (w6.alloc (.cells #[u1, u2, u3, u4] t)).cell? ⟨w.heap.size, 8, none⟩ = some (.int .i64 r.sl)) ∧ ((w6.alloc (.cells #[u1, u2, u3, u4] t)).cell? ⟨w.heap.size + 1, 0, none⟩ = some (v1) ∧ (w6.alloc (.cells #[u1, u2, u3, u4] t)).cell? ⟨w.heap.size + 1, 1, none⟩ = some (v2) ∧ (w6.alloc (.cells #[u1, u2, u3, u4] t)).cell? ⟨w.heap.size + 1, 2, none⟩ = some (v3) ∧ (w6.alloc (.cells #[u1, u2, u3, u4] t)).cell? ⟨w.heap.size + 1, 3, none⟩ = some (v4)) ∧ Below w.heap.size w (w6.alloc (.cells #[u1, u2, u3, u4] t))) ∧ ((w6.alloc (.cells #[u1, u2, u3, u4] t)).cell? ⟨w6.heap.size, 0, none⟩ = some (u1) ∧ (w6.alloc (.cells #[u1, u2, u3, u4] t)).cell? ⟨w6.heap.size, 1, none⟩ = some (u2) ∧ (w6.alloc (.cells #[u1, u2, u3, u4] t)).cell? ⟨w6.heap.size, 2, none⟩ = some (u3) ∧ (w6.alloc (.cells #[u1, u2, u3, u4] t)).cell? ⟨w6.heap.size, 3, none⟩ = some (u4)) ∧ Below w6.heap.size w6 (w6.alloc (.cells #[u1, u2, u3, u4] t)) :=
  have K := Blk.new w6 t #[u1, u2, u3, u4]
  ⟨so_keep h (boxed_ _ _), ⟨K.cell 0, K.cell 1, K.cell 2, K.cell 3⟩, boxed_ _ _⟩
end Go.Proofs.Ytcfbihponecblaa
/- Captures: the captured pits by both, own copies and marks of seeds. Conditions: lengths below 2^20. -/
namespace Go.Proofs.Ytcfbihponecblaa
set_option linter.unusedSimpArgs false
set_option linter.unusedVariables false
open Go.RowKit

def pitsR (r : Ru) (d : SownD) (pl : Int) : List Int × Int := if okSown r d pl then (capR r d pl, 0) else ([], 1)
theorem pairLI {x x' : List Int} {z z' : Int} (h : (x', z') = (x, z)) : x' = x ∧ z' = z := by
  injection h with h1 h2
  exact ⟨h1, h2⟩
def CpPost (l : List Int) (code : Int) (w : World) (e : Ending) (w' : World) : Prop :=
  ∃ (A : Option Addr) (g cap : Nat), e = .returned (.tuple #[.slice A l.length cap, .int .i64 code]) ∧ w.heap.size ≤ g ∧ OwnV w' g 2 1 A l.length (l.map (Value.int .i64)) ∧ Below w.heap.size w w'
theorem pitsR_len {r : Ru} {d : SownD} {pl : Int} {l : List Int} {code : Int} (h : pitsR r d pl = (l, code)) : l.length ≤ 16 := by
  unfold pitsR at h
  cases g : okSown r d pl
  · rw [g, if_neg (by simp)] at h
    obtain ⟨rfl, _⟩ := pairLI h
    simp
  · rw [g, if_pos rfl] at h
    obtain ⟨rfl, _⟩ := pairLI h
    obtain ⟨P, p, hP, h2, h8, hn, hn', hd, hp, ho, ho', hk⟩ := okSown_of g
    have : capR r d pl = capL P p r.ca r.sl d.last d.pits := by rw [capR, hP, hd, Int.toNat_natCast, Int.toNat_natCast]
    rw [this]
    have := (capL_in (P := P) (p := p) (ca := r.ca) (sl := r.sl) (zs := d.pits) h2 hk).1
    omega
set_option maxRecDepth 100000 in
set_option maxHeartbeats 2000000 in
theorem CapturePits_any (r : Ru) (A1 A2 : Option Addr) (n1 c1 n2 c2 : Nat) (d : SownD) (pl : Int) (l : List Int) (code : Int) (w : World) (s1 : Sl w w.heap.size 1 A1 n1 (d.pits.map (Value.int .i64))) (s2 : Sl w w.heap.size 1 A2 n2 (d.stores.map (Value.int .i64))) (hc : n1 ≤ c1) (hcm : c1 ≤ 9223372036854775807) (hsz : szSown d ≤ 1048576) (hq : pitsR r d pl = (l, code)) :
    Calls Try.prog 6 #[.agg #[.int .i64 r.p, .int .i64 r.s, .bool r.st, .bool r.sk, .bool r.re, .bool r.fe, .bool r.ag, .int .i64 r.ca, .int .i64 r.sl], .agg #[.slice A1 n1 c1, .slice A2 n2 c2, .int .i64 d.last, .int .i64 d.laps], .int .i64 pl] w (CpPost l code w) := by
  have HV : Hid (∀ w' q, Below w.heap.size w w' → okSown r d pl = q → Calls Try.prog 15 #[.agg #[.int .i64 r.p, .int .i64 r.s, .bool r.st, .bool r.sk, .bool r.re, .bool r.fe, .bool r.ag, .int .i64 r.ca, .int .i64 r.sl], .agg #[.slice A1 n1 c1, .slice A2 n2 c2, .int .i64 d.last, .int .i64 d.laps], .int .i64 pl] w' fun e w'' => e = .returned (.bool q) ∧ Below w'.heap.size w' w'') := fun w' q hb h => ValidSown_any r A1 A2 n1 c1 n2 c2 d pl q w' (s1.later hb) (s2.later hb) hsz h
  unfold pitsR at hq
  cases g1 : okSown r d pl
  case false =>
    rw [g1, if_neg (by simp)] at hq
    obtain ⟨rfl, rfl⟩ := pairLI hq
    have G1 := Lib.hid g1
    clear g1 hq s1 s2
    go_enter Try.func6, Try.ntmps6
    go_wp2_with fail
    with_reducible refine Calls.mono (HV.out _ false ?_ G1.out) ?_
    · (repeat' (first | (with_reducible exact Below.refl _ _) | (with_reducible assumption) | (with_reducible refine Below.alloc ?_ ?_ _) | (with_reducible refine Below.drew ?_) | (with_reducible refine belowDrewN ?_ _) | (with_reducible refine Below.setCell ?_ ?_ _) | (with_reducible refine Below.via (by with_reducible assumption) ?_ ?_) | (with_reducible refine Below.viaD (by with_reducible assumption) ?_ ?_) | (with_reducible exact Below.size (by with_reducible assumption)) | go_size | (with_reducible refine Nat.le_trans ?_ (Below.size (by with_reducible assumption))) | (with_reducible refine Nat.le_trans ?_ (sizeAlloc _ _)) | (with_reducible refine Nat.le_trans ?_ (sizeSet _ _ _)) | (with_reducible refine Nat.le_trans ?_ (sizeDrew _))))
    rintro e w1 ⟨rfl, hb1⟩
    go_wp2_with fail
    go_ret2
    exact ⟨none, w.heap.size, 0, rfl, Nat.le_refl _, OwnV.none _ _ _ _ _, by (repeat' (first | (with_reducible exact Below.refl _ _) | (with_reducible assumption) | (with_reducible refine Below.alloc ?_ ?_ _) | (with_reducible refine Below.drew ?_) | (with_reducible refine belowDrewN ?_ _) | (with_reducible refine Below.setCell ?_ ?_ _) | (with_reducible refine Below.via (by with_reducible assumption) ?_ ?_) | (with_reducible refine Below.viaD (by with_reducible assumption) ?_ ?_) | (with_reducible exact Below.size (by with_reducible assumption)) | go_size | (with_reducible refine Nat.le_trans ?_ (Below.size (by with_reducible assumption))) | (with_reducible refine Nat.le_trans ?_ (sizeAlloc _ _)) | (with_reducible refine Nat.le_trans ?_ (sizeSet _ _ _)) | (with_reducible refine Nat.le_trans ?_ (sizeDrew _))))⟩
  case true =>
    rw [g1, if_pos rfl] at hq
    obtain ⟨hl, rfl⟩ := pairLI hq
    obtain ⟨P, p, hP, h2, h8, hn, hn', hd, hp, ho, ho', hk⟩ := okSown_of g1
    have hn1 : n1 = 2 * P := by have := s1.ints; omega
    have hl2 : capL P p r.ca r.sl d.last d.pits = l := by rw [← hl, capR, hP, hd, Int.toNat_natCast, Int.toNat_natCast]
    have HC : Hid (∀ w', Below w.heap.size w w' → Calls Try.prog 16 #[.agg #[.int .i64 r.p, .int .i64 r.s, .bool r.st, .bool r.sk, .bool r.re, .bool r.fe, .bool r.ag, .int .i64 r.ca, .int .i64 r.sl], .agg #[.slice A1 n1 c1, .slice A2 n2 c2, .int .i64 d.last, .int .i64 d.laps], .int .i64 p] w' (TkPost l w')) := fun w' hb => captured_any r P p d.last d.pits A1 A2 n1 c1 n2 c2 d.laps l w' (s1.later hb) hP h2 h8 hn1 hc hcm hp hk ho hl2
    rw [hd] at HV g1
    have G1 := Lib.hid g1
    subst hd
    clear g1 hq hl hl2 s1 s2 hP ho ho' hk hn hn' hc hn1
    go_enter Try.func6, Try.ntmps6
    go_wp2_with fail
    with_reducible refine Calls.mono (HV.out _ true ?_ G1.out) ?_
    · (repeat' (first | (with_reducible exact Below.refl _ _) | (with_reducible assumption) | (with_reducible refine Below.alloc ?_ ?_ _) | (with_reducible refine Below.drew ?_) | (with_reducible refine belowDrewN ?_ _) | (with_reducible refine Below.setCell ?_ ?_ _) | (with_reducible refine Below.via (by with_reducible assumption) ?_ ?_) | (with_reducible refine Below.viaD (by with_reducible assumption) ?_ ?_) | (with_reducible exact Below.size (by with_reducible assumption)) | go_size | (with_reducible refine Nat.le_trans ?_ (Below.size (by with_reducible assumption))) | (with_reducible refine Nat.le_trans ?_ (sizeAlloc _ _)) | (with_reducible refine Nat.le_trans ?_ (sizeSet _ _ _)) | (with_reducible refine Nat.le_trans ?_ (sizeDrew _))))
    rintro e w1 ⟨rfl, hb1⟩
    have HW1 : Hid (Below w.heap.size w w1) := by unfold Hid; (repeat' (first | (with_reducible exact Below.refl _ _) | (with_reducible assumption) | (with_reducible refine Below.alloc ?_ ?_ _) | (with_reducible refine Below.drew ?_) | (with_reducible refine belowDrewN ?_ _) | (with_reducible refine Below.setCell ?_ ?_ _) | (with_reducible refine Below.via (by with_reducible assumption) ?_ ?_) | (with_reducible refine Below.viaD (by with_reducible assumption) ?_ ?_) | (with_reducible exact Below.size (by with_reducible assumption)) | go_size | (with_reducible refine Nat.le_trans ?_ (Below.size (by with_reducible assumption))) | (with_reducible refine Nat.le_trans ?_ (sizeAlloc _ _)) | (with_reducible refine Nat.le_trans ?_ (sizeSet _ _ _)) | (with_reducible refine Nat.le_trans ?_ (sizeDrew _))))
    obtain ⟨hc1, hf1, hl1', hz1⟩ := bfacts hb1
    go_wp2_with fail
    with_reducible refine Calls.mono (HC.out _ ?_) ?_
    · exact HW1.out
    rintro e w2 ⟨A', g, cap, rfl, hg, hnc, hcm', hown, hb2⟩
    go_wp2_with fail
    go_ret2
    exact ⟨A', g, cap, rfl, Nat.le_trans HW1.out.size hg, hown, Below.via hb2 HW1.out HW1.out.size⟩
end Go.Proofs.Ytcfbihponecblaa
/- Captures: copies of lists, and the seeds behind the captures as plain data. Conditions: lengths below 2^20. -/
namespace Go.Proofs.Ytcfbihponecblaa
set_option linter.unusedSimpArgs false
set_option linter.unusedVariables false
open Go.RowKit

def CoPost (n : Nat) (zs : List Int) (w : World) (e : Ending) (w' : World) : Prop :=
  ∃ (A : Option Addr) (g cap : Nat), e = .returned (.slice A n cap) ∧ w.heap.size ≤ g ∧ n ≤ cap ∧ cap ≤ maxLen ∧ OwnV w' g 2 1 A n (zs.map (Value.int .i64)) ∧ Below w.heap.size w w'
theorem copyNumbers_any (A : Option Addr) (n c : Nat) (zs : List Int) (w : World) (hs : Sl w w.heap.size 1 A n (zs.map (Value.int .i64))) (hn : n ≤ 1048576) : Calls Try.prog 18 #[.slice A n c] w (CoPost n zs w) := by
  obtain ⟨i0, ti, tz0, tz1, tz2⟩ := info_parts info_int64t
  have HS := Lib.hid hs
  clear hs
  go_enter Try.func18, Try.ntmps18
  go_wp2_with (at_builtin; refine wpList_append_sl _ rfl _ _ 26 rfl w.heap.size 2 i0 _ 1 8 Try.underlying26 ti tz0 tz1 tz2 rfl (by decide) _ 0 [] rfl (row_made0 rfl (Nat.le_refl _)) w.heap.size A n c (zs.map (Value.int .i64)) rfl (HS.out.below (boxed_ _ _)) ?c1 ?c2 ?c3 ?c4 ?_)
  case c1 => intro u hu; obtain ⟨z, _, rfl⟩ := List.mem_map.1 hu; rfl
  case c2 => unfold maxLen; omega
  case c3 => omega
  case c4 => first | (simp; done) | (simp; omega)
  intro v' w1 hown1 hg1 _
  have hbn : Below w.heap.size w w1 := below_app (by (repeat' (first | (with_reducible exact Below.refl _ _) | (with_reducible assumption) | (with_reducible refine Below.alloc ?_ ?_ _) | (with_reducible refine Below.drew ?_) | (with_reducible refine belowDrewN ?_ _) | (with_reducible refine Below.setCell ?_ ?_ _) | (with_reducible refine Below.via (by with_reducible assumption) ?_ ?_) | (with_reducible refine Below.viaD (by with_reducible assumption) ?_ ?_) | (with_reducible exact Below.size (by with_reducible assumption)) | go_size | (with_reducible refine Nat.le_trans ?_ (Below.size (by with_reducible assumption))) | (with_reducible refine Nat.le_trans ?_ (sizeAlloc _ _)) | (with_reducible refine Nat.le_trans ?_ (sizeSet _ _ _)) | (with_reducible refine Nat.le_trans ?_ (sizeDrew _))))) (row_made0 rfl (Nat.le_refl _)) hg1 (Nat.le_refl _) (by simp)
  obtain ⟨A', g, cap, rfl, hg, hnc, hcm, ho⟩ := own_of_row hown1
  have HN := Lib.hid hbn
  clear hown1 hg1 hbn
  go_wp2_with fail
  go_ret
  exact ⟨A', g, cap, rfl, hg, hnc, hcm, ho, HN.out⟩
/-- The pits with the first k of a list emptied. -/
def setZ (zs l : List Int) : Nat → List Int
  | 0 => zs
  | k + 1 => (setZ zs l k).set (l.getD k 0).toNat 0
theorem setZ_len (zs l : List Int) (k : Nat) : (setZ zs l k).length = zs.length := by
  induction k with
  | zero => rfl
  | succ k ih => rw [setZ, List.length_set, ih]
/-- No pit twice. -/
def ndL (l : List Int) : Prop := ∀ i j, i < j → j < l.length → l.getD i 0 ≠ l.getD j 0
theorem setZ_at {P : Nat} {zs l : List Int} (hn : ndL l) (hi : inPits P l) {k : Nat} (hk : k < l.length) : ∀ j, j ≤ k → (setZ zs l j).getD (l.getD k 0).toNat 0 = zs.getD (l.getD k 0).toNat 0 := by
  intro j
  induction j with
  | zero => intro _; rfl
  | succ j ih =>
    intro hj
    obtain ⟨a, ea, _⟩ := hi.2 k hk
    obtain ⟨b, eb, _⟩ := hi.2 j (by omega)
    have hne := hn j k (by omega) hk
    have h1 : (l.getD j 0).toNat ≠ (l.getD k 0).toNat := by omega
    rw [setZ, List.getD_eq_getElem?_getD, List.getElem?_set, if_neg h1, ← List.getD_eq_getElem?_getD]
    exact ih (by omega)
theorem runL_nd {P : Nat} {pl : Int} {zs : List Int} : ∀ k, ndL (runL P pl zs k) := by
  intro k
  induction k with
  | zero => intro i j _ hj; simp [runL] at hj
  | succ k ih =>
    rw [runL]
    split
    · intro i j hij hj
      rcases j with _ | j
      · omega
      · rcases i with _ | i
        · rw [List.getD_cons_zero, List.getD_cons_succ]
          obtain ⟨m, e, hm⟩ := (runL_in (P := P) (pl := pl) (zs := zs) k).2 _ (getD_mem 0 (show j < (runL P pl zs k).length by simpa using hj))
          rw [e]; omega
        · rw [List.getD_cons_succ, List.getD_cons_succ]
          exact ih i j (by omega) (by simpa using hj)
    · intro i j _ hj; simp at hj
theorem ndL_nil : ndL [] := fun i j _ hj => by simp at hj
theorem ndL_one (a : Int) : ndL [a] := fun i j h hj => by simp at hj; omega
theorem ndL_two {a b : Int} (h : a ≠ b) : ndL [a, b] := fun i j hij hj => by
  have : i = 0 ∧ j = 1 := by simp at hj; omega
  obtain ⟨rfl, rfl⟩ := this
  simpa using h
theorem takenL_nd {P : Nat} {pl ca last : Int} {zs : List Int} (h2 : 2 ≤ P) (hk : last < 2 * (P : Int)) : ndL (takenL P pl ca last zs) := by
  unfold takenL takenK
  split
  · exact ndL_nil
  · split
    · exact runL_nd _
    · split
      · split
        · exact ndL_two (by omega)
        · exact ndL_nil
      · split
        · split
          · exact ndL_one _
          · exact ndL_nil
        · exact ndL_nil
theorem capL_nd {P p : Nat} {ca sl last : Int} {zs : List Int} (h2 : 2 ≤ P) (hk : last < 2 * (P : Int)) : ndL (capL P p ca sl last zs) := by
  unfold capL
  split
  · exact ndL_nil
  · exact takenL_nd h2 hk
def stP (st : List Int) (p : Nat) (v : Int) : List Int := st.set p (st.getD p 0 + v)
theorem stP_len (st : List Int) (p : Nat) (v : Int) : (stP st p v).length = st.length := by simp [stP]
theorem stP_at {st : List Int} {p : Nat} (v : Int) (h : p < st.length) : (stP st p v).getD p 0 = st.getD p 0 + v := by
  rw [stP, List.getD_eq_getElem?_getD, List.getElem?_set, if_pos rfl, if_pos h]; rfl
theorem stP_step {st : List Int} {p : Nat} (v u : Int) (h : p < st.length) : (stP st p v).set p (st.getD p 0 + v + u) = stP st p (v + u) := by
  rw [stP, stP, List.set_set, Int.add_assoc]
theorem stP_zero {st : List Int} {p : Nat} (h : p < st.length) : stP st p 0 = st := by
  rw [stP, Int.add_zero, List.getD_eq_getElem?_getD, List.getElem?_eq_getElem h]
  simp
/-- A list of numbers, and what its block holds behind it. -/
def arR (zs : List Int) (rest : List Value) : Array Value := (zs.map (Value.int .i64) ++ rest).toArray
theorem arR_at {zs : List Int} (rest : List Value) {d : Nat} (h : d < zs.length) : (arR zs rest)[d]? = some (.int .i64 (zs.getD d 0)) := by
  rw [arR, List.getElem?_toArray, List.getElem?_append_left (by simpa using h)]
  exact getD_map_int h
theorem arR_set {zs : List Int} (rest : List Value) {d : Nat} (h : d < zs.length) (v : Int) : (arR zs rest).setIfInBounds d (.int .i64 v) = arR (zs.set d v) rest := by
  rw [arR, List.setIfInBounds_toArray, List.set_append_left _ _ (by simpa using h), ← List.map_set]
  rfl
end Go.Proofs.Ytcfbihponecblaa
