/- A list of the call's own beside the source of draws. No conditions. -/
import Derived.Test.YteeplmnjipddaaaDraw1
import Derived.Test.YteeplmnjipddaaaApp
namespace Go.Proofs.Yteeplmnjipddaaa
set_option linter.unusedSimpArgs false
set_option linter.unusedVariables false
open Go.RowKit Go.WideShapes

theorem own_baseM {w : World} {base base' : Nat} {e : TypeId} {size : Nat} {v : Value} {n : Nat} {xs : List Value} (h : w.ownsRow base e size v n xs) (hb : base' ≤ base) : w.ownsRow base' e size v n xs := by
  refine ⟨h.1, ?_⟩
  rcases h.2 with h2 | ⟨g, cap, cur, h1, h2, h3⟩
  · exact Or.inl h2
  · exact Or.inr ⟨g, cap, cur, h1, Nat.le_trans hb h2, h3⟩
def vlenM : Value → Nat | .slice _ n _ => n | _ => 0
theorem grown_bel {w wr w' : World} {row : Option Nat} (h : w.grownBy wr row) (hb : Below wr.heap.size wr w') : w.grownBy w' row :=
  ⟨hb.os.trans h.os, hb.tape.trans h.tape, hb.output.trans h.output, Nat.le_trans h.size hb.size, fun k hk hne => (hb.block k (Nat.lt_of_lt_of_le hk h.size)).trans (h.block k hk hne)⟩
/-- A list of the call's own (values) beside the source. -/
structure MV (t : TypeId) (sz : Nat) (w wr : World) (b : Nat) (A : Option Addr) (n c M : Nat) (cs : List Int) (v : Value) (j : Nat) (vs : List Value) : Prop where
  src : Src wr b A n c M cs
  row : wr.ownsRow w.heap.size t sz v j vs
  gr : w.grownBy wr (some b)
section
variable {t : TypeId} {sz : Nat} {w wr w' : World} {b : Nat} {A : Option Addr} {n c M M' : Nat} {cs : List Int} {v v' : Value} {j j' : Nat} {vs ys : List Value}
theorem MV.later (h : MV t sz w wr b A n c M cs v j vs) (hb : Below wr.heap.size wr w') : MV t sz w w' b A n c M cs v j vs := ⟨h.src.later hb, row_below h.row hb, grown_bel h.gr hb⟩
theorem MV.alloc (h : MV t sz w wr b A n c M cs v j vs) (o : Obj) : MV t sz w (wr.alloc o) b A n c M cs v j vs := h.later (Below.alloc (Below.refl _ _) (Nat.le_refl _) o)
theorem MV.draw (h : MV t sz w wr b A n c M cs v j vs) (hb : b < w.heap.size) (hs : Src w' b A n c M' cs) (hg : wr.grownBy w' (some b)) : MV t sz w w' b A n c M' cs v j vs :=
  ⟨hs, own_over h.row hg (by intro e; have := (h.row.lt b e).1; omega), grown_tr h.gr hg⟩
theorem MV.app (h : MV t sz w wr b A n c M cs v j vs) (hb : b < w.heap.size) (hab : ∀ b' off, A = some ⟨b', off, none⟩ → 0 < n → b' < w.heap.size) (hown : w'.ownsRow w.heap.size t sz v' j' ys) (hg : wr.grownBy w' v.ownBlock) : MV t sz w w' b A n c M cs v' j' ys :=
  ⟨h.src.over hg (by intro e; have := (h.row.lt b e).1; omega) (fun b' off e hn e2 => by have := (h.row.lt b' e2).1; have := hab b' off e hn; omega),
   hown,
   ⟨hg.os.trans h.gr.os, hg.tape.trans h.gr.tape, hg.output.trans h.gr.output, Nat.le_trans h.gr.size hg.size, fun q hq hne => (hg.block q (Nat.lt_of_lt_of_le hq h.gr.size) (fun e => by have := (h.row.lt q e.symm).1; omega)).trans (h.gr.block q hq hne)⟩⟩
theorem MV.mono (h : MV t sz w wr b A n c M cs v j vs) (hM : M ≤ M') : MV t sz w wr b A n c M' cs v j vs := ⟨h.src.mono hM, h.row, h.gr⟩
end
theorem sl_grown {w wr : World} {B sz m b : Nat} {A : Option Addr} {vs : List Value} (hs : Sl w B sz A m vs) (hg : w.grownBy wr (some b)) (hne : ∀ b' off, A = some ⟨b', off, none⟩ → b' ≠ b) : Sl wr B sz A m vs := by
  refine ⟨hs.1, fun hn => ?_⟩
  obtain ⟨b', off, e, hb', hc⟩ := hs.2 hn
  exact ⟨b', off, e, hb', fun j u hu => hg.cell (hc j u hu) (by intro e2; injection e2 with e2; exact hne b' off e e2)⟩
theorem made_two (v : Value) (n : Nat) : madeCells #[v, v] (n * 2) = (List.replicate (n * 2) v).toArray := by
  apply Array.ext_getElem?
  intro i
  unfold madeCells
  rw [Array.getElem?_map]
  rcases Nat.lt_or_ge i (n * 2) with h | h
  · have : i % 2 = 0 ∨ i % 2 = 1 := by omega
    rcases this with e | e <;> simp [h, e]
  · simp [h]
theorem row_of_blkN {w : World} {g base sz n : Nat} {t : TypeId} {vs : List Value} (h : Blk w g t vs.toArray) (hb : base ≤ g) (hl : vs.length = n * sz) (hm : n ≤ maxLen) : w.ownsRow base t sz (.slice (some ⟨g, 0, none⟩) n n) n vs :=
  ⟨hl, .inr ⟨g, n, vs.toArray, rfl, hb, h, Nat.le_refl _, hm, by simpa using hl, by simp [← hl]⟩⟩
end Go.Proofs.Yteeplmnjipddaaa
