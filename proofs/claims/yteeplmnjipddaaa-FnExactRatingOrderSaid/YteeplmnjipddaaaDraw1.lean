/- Draws of ratings: one of some numbers, a player, lists. Conditions: at most 2^20 bytes. -/
import Derived.Test.YteeplmnjipddaaaSrc2
namespace Go.Proofs.Yteeplmnjipddaaa
set_option linter.unusedSimpArgs false
set_option linter.unusedVariables false
open Go.RowKit Go.WideShapes

theorem Src.aBelow {w : World} {b n c M : Nat} {A : Option Addr} {zs : List Int} (h : Src w b A n c M zs) : ∀ b' off, A = some ⟨b', off, none⟩ → 0 < n → b' < w.heap.size := fun b' off e hn => by
  obtain ⟨b2, off2, e2, hb2, _⟩ := h.sl.2 hn
  rw [e] at e2
  injection e2 with e2
  injection e2 with e2
  omega
theorem Src.set {w : World} {b n c M : Nat} {A : Option Addr} {zs : List Int} (h : Src w b A n c M zs) (p : Addr) (u : Value) (hp : p.block ≠ b) (hA : ∀ b' off, A = some ⟨b', off, none⟩ → 0 < n → b' ≠ p.block) : Src (w.setCell p u) b A n c M zs :=
  h.over (row := some p.block) (only_setCell (World.grownBy.refl _ _) (.inl rfl) u) (fun e => hp (by injection e)) (fun b' off e hn e2 => hA b' off e hn (by injection e2 with e2; exact e2.symm))
theorem blk_over {w w' : World} {g : Nat} {t : TypeId} {cs : Array Value} {row : Option Nat} (h : Blk w g t cs) (hg : w.grownBy w' row) (hne : row ≠ some g) : Blk w' g t cs := (hg.block g h.lt (fun e => hne e.symm)).trans h
theorem grown_alloc {a w : World} {row : Option Nat} (h : a.grownBy w row) (o : Obj) : a.grownBy (w.alloc o) row := ⟨h.os, h.tape, h.output, Nat.le_trans h.size (sizeAlloc _ _), fun k hk hne => (Below.heap_alloc w o k (Nat.lt_of_lt_of_le hk h.size)).trans (h.block k hk hne)⟩
theorem grown_tr {a w w' : World} {row : Option Nat} (h1 : a.grownBy w row) (h2 : w.grownBy w' row) : a.grownBy w' row :=
  ⟨h2.os.trans h1.os, h2.tape.trans h1.tape, h2.output.trans h1.output, Nat.le_trans h1.size h2.size, fun k hk hne => (h2.block k (Nat.lt_of_lt_of_le hk h1.size) hne).trans (h1.block k hk hne)⟩
set_option maxHeartbeats 1000000 in
theorem among_any (b : Nat) (A : Option Addr) (n c M : Nat) (cs : List Int) (g m q : Nat) (zs : List Int) (w : World) (h : Src w b A n c M cs) (hn : n ≤ 1048576) (hM : M ≤ 999999998) (hl : Sl w w.heap.size 1 (some ⟨g, 0, none⟩) m (zs.map (Value.int .i64))) (hg : g ≠ b) (hm : 2 ≤ m) (hm2 : m ≤ 1000) :
    Calls Try.prog 66 #[.pointer (some ⟨b, 0, none⟩), .slice (some ⟨g, 0, none⟩) m q] w fun e w' => ∃ x : Int, e = .returned (.int .i64 x) ∧ x ∈ zs ∧ Src w' b A n c (M + 2) cs ∧ w.grownBy w' (some b) := by
  have HS := Lib.hid h
  have HL := Lib.hid hl
  have hlen := hl.ints
  clear h hl
  go_enter Try.func66, Try.ntmps66
  go_wp2_with fail
  refine (pick_any b A n c M cs (m : Nat) _ HS.out hn hM (by omega)).mono ?_
  rintro e w1 ⟨x, rfl, hx0, hx1, -, S1, g1⟩
  have hx2 := hx1 (by omega)
  obtain ⟨k, rfl⟩ := Int.eq_ofNat_of_zero_le hx0
  have hk : k < m := by omega
  obtain ⟨b2, off, z, e2, hb2, HZ, hc⟩ := HL.out.int hk
  injection e2 with e2
  injection e2 with e21 e22 _
  subst e21 e22
  have hc1 := g1.cell (a := ⟨g, 0 + k, none⟩) hc (by simpa using hg)
  have HS1 := Lib.hid S1
  have HG1 := Lib.hid g1
  have HM : Hid (z ∈ zs) := by
    unfold Hid
    rw [← HZ.out, List.getD_eq_getElem?_getD, List.getElem?_eq_getElem (by omega)]
    exact List.getElem_mem _
  rw [Nat.zero_add] at hc1
  clear S1 g1 hx1 hc
  go_wp2_with fail
  go_ret
  exact ⟨z, rfl, HM.out, HS1.out, HG1.out⟩
def DrP (b : Nat) (A : Option Addr) (n c M : Nat) (cs : List Int) (w : World) (e : Ending) (w' : World) : Prop :=
  ∃ r g : Int, e = .returned (.agg #[.int .i64 r, .int .i64 g]) ∧ -1 ≤ r ∧ r ≤ 4001 ∧ -1 ≤ g ∧ g ≤ 1000001 ∧ Src w' b A n c (M + 8) cs ∧ w.grownBy w' (some b)
end Go.Proofs.Yteeplmnjipddaaa
