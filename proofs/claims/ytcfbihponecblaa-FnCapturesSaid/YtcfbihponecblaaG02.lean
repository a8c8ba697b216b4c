/- Packed lists, plainly: numbers as bytes, runs, checksums. No conditions. -/
import Derived.Test.YtcfbihponecblaaG01
import Derived.Test.YtcfbihponecblaaG00
/- The reference's source of choices beside memory that is made. No conditions. -/
namespace Go.Proofs.Ytcfbihponecblaa
set_option linter.unusedSimpArgs false
set_option linter.unusedVariables false
open Go.RowKit

theorem Src.over {w w' : World} {b n c M : Nat} {A : Option Addr} {zs : List Int} {row : Option Nat} (h : Src w b A n c M zs) (hg : w.grownBy w' row) (hb : row ≠ some b) (hA : ∀ b' off, A = some ⟨b', off, none⟩ → 0 < n → row ≠ some b') : Src w' b A n c M zs := by
  have hlt := h.lt
  obtain ⟨⟨a, s, ha, s0, s1, hk⟩, hsl, hbd, hap⟩ := h
  refine ⟨⟨a, s, ha, s0, s1, (hg.block b hlt (fun e => hb e.symm)).trans hk⟩, ?_, hbd, hap⟩
  refine ⟨hsl.1, fun hn => ?_⟩
  obtain ⟨b', off, e, hb', hc⟩ := hsl.2 hn
  have hk' := hg.block b' hb' (fun e' => hA b' off e hn e'.symm)
  refine ⟨b', off, e, Nat.lt_of_lt_of_le hb' hg.size, fun j u hu => ?_⟩
  rw [← hc j u hu]
  simp only [World.cell?, hk']
theorem Src.later {w w' : World} {b n c M : Nat} {A : Option Addr} {zs : List Int} (h : Src w b A n c M zs) (hb : Below w.heap.size w w') : Src w' b A n c M zs := by
  obtain ⟨⟨a, s, ha, s0, s1, hk⟩, hsl, hbd, hap⟩ := h
  exact ⟨⟨a, s, ha, s0, s1, hk.later hb⟩, hsl.later hb, hbd, hap⟩
/-- A row of the call's own beside the source. -/
theorem own_over {w w' : World} {base : Nat} {e : TypeId} {size : Nat} {v : Value} {n : Nat} {xs : List Value} {b : Nat} (h : w.ownsRow base e size v n xs) (hg : w.grownBy w' (some b)) (hne : v.ownBlock ≠ some b) : w'.ownsRow base e size v n xs := h.kept hg (Or.inr hne)
/-- A source above a base: behind a draw. -/
theorem below_src {B b : Nat} {a w w' : World} (h : Below B a w) (hg : w.grownBy w' (some b)) (h1 : B ≤ b) (h2 : B ≤ w.heap.size) : Below B a w' := grown_below h hg h1 h2
end Go.Proofs.Ytcfbihponecblaa
/- Draws of ratings: one of some numbers, a player, lists. Conditions: at most 2^20 bytes. -/
namespace Go.Proofs.Ytcfbihponecblaa
set_option linter.unusedSimpArgs false
set_option linter.unusedVariables false
open Go.RowKit Go.WideShapes

theorem Src.aBelow {w : World} {b n c M : Nat} {A : Option Addr} {zs : List Int} (h : Src w b A n c M zs) : ∀ b' off, A = some ⟨b', off, none⟩ → 0 < n → b' < w.heap.size := fun b' off e hn => by
  obtain ⟨b2, off2, e2, hb2, _⟩ := h.sl.2 hn
  rw [e] at e2
  injection e2 with e2
  injection e2 with e2
  omega
theorem Src.set {w : World} {b n c M : Nat} {A : Option Addr} {zs : List Int} (h : Src w b A n c M zs) (p : Addr) (u : Value) (hp : p.block ≠ b) (hA : ∀ b' off, A = some ⟨b', off, none⟩ → 0 < n → b' ≠ p.block) : Src (w.setCell p u) b A n c M zs :=
  h.over (row := some p.block) (only_setCell (World.grownBy.refl _ _) (.inl rfl) u) (fun e => hp (by injection e)) (fun b' off e hn e2 => hA b' off e hn (by injection e2 with e2; exact e2.symm))
theorem blk_over {w w' : World} {g : Nat} {t : TypeId} {cs : Array Value} {row : Option Nat} (h : Blk w g t cs) (hg : w.grownBy w' row) (hne : row ≠ some g) : Blk w' g t cs := (hg.block g h.lt (fun e => hne e.symm)).trans h
theorem grown_alloc {a w : World} {row : Option Nat} (h : a.grownBy w row) (o : Obj) : a.grownBy (w.alloc o) row := ⟨h.os, h.tape, h.output, Nat.le_trans h.size (sizeAlloc _ _), fun k hk hne => (Below.heap_alloc w o k (Nat.lt_of_lt_of_le hk h.size)).trans (h.block k hk hne)⟩
theorem grown_tr {a w w' : World} {row : Option Nat} (h1 : a.grownBy w row) (h2 : w.grownBy w' row) : a.grownBy w' row :=
  ⟨h2.os.trans h1.os, h2.tape.trans h1.tape, h2.output.trans h1.output, Nat.le_trans h1.size h2.size, fun k hk hne => (h2.block k (Nat.lt_of_lt_of_le hk h1.size) hne).trans (h1.block k hk hne)⟩
set_option maxHeartbeats 1000000 in
theorem among_any (b : Nat) (A : Option Addr) (n c M : Nat) (cs : List Int) (g m q : Nat) (zs : List Int) (w : World) (h : Src w b A n c M cs) (hn : n ≤ 1048576) (hM : M ≤ 999999998) (hl : Sl w w.heap.size 1 (some ⟨g, 0, none⟩) m (zs.map (Value.int .i64))) (hg : g ≠ b) (hm : 2 ≤ m) (hm2 : m ≤ 1000) :
    Calls Try.prog 23 #[.pointer (some ⟨b, 0, none⟩), .slice (some ⟨g, 0, none⟩) m q] w fun e w' => ∃ x : Int, e = .returned (.int .i64 x) ∧ x ∈ zs ∧ Src w' b A n c (M + 2) cs ∧ w.grownBy w' (some b) := by
  have HS := Lib.hid h
  have HL := Lib.hid hl
  have hlen := hl.ints
  clear h hl
  go_enter Try.func23, Try.ntmps23
  go_wp2_with fail
  refine (pick_any b A n c M cs (m : Nat) _ HS.out hn hM (by omega)).mono ?_
  rintro e w1 ⟨x, rfl, hx0, hx1, -, S1, g1⟩
  have hx2 := hx1 (by omega)
  obtain ⟨k, rfl⟩ := Int.eq_ofNat_of_zero_le hx0
  have hk : k < m := by omega
  obtain ⟨b2, off, z, e2, hb2, HZ, hc⟩ := HL.out.int hk
  injection e2 with e2
  injection e2 with e21 e22 _
  subst e21 e22
  have hc1 := g1.cell (a := ⟨g, 0 + k, none⟩) hc (by simpa using hg)
  have HS1 := Lib.hid S1
  have HG1 := Lib.hid g1
  have HM : Hid (z ∈ zs) := by
    unfold Hid
    rw [← HZ.out, List.getD_eq_getElem?_getD, List.getElem?_eq_getElem (by omega)]
    exact List.getElem_mem _
  rw [Nat.zero_add] at hc1
  clear S1 g1 hx1 hc
  go_wp2_with fail
  go_ret
  exact ⟨z, rfl, HM.out, HS1.out, HG1.out⟩
def DrP (b : Nat) (A : Option Addr) (n c M : Nat) (cs : List Int) (w : World) (e : Ending) (w' : World) : Prop :=
  ∃ r g : Int, e = .returned (.agg #[.int .i64 r, .int .i64 g]) ∧ -1 ≤ r ∧ r ≤ 4001 ∧ -1 ≤ g ∧ g ≤ 1000001 ∧ Src w' b A n c (M + 8) cs ∧ w.grownBy w' (some b)
end Go.Proofs.Ytcfbihponecblaa
/- A list of the call's own beside the source of draws. No conditions. -/
namespace Go.Proofs.Ytcfbihponecblaa
set_option linter.unusedSimpArgs false
set_option linter.unusedVariables false
open Go.RowKit Go.WideShapes

theorem own_baseM {w : World} {base base' : Nat} {e : TypeId} {size : Nat} {v : Value} {n : Nat} {xs : List Value} (h : w.ownsRow base e size v n xs) (hb : base' ≤ base) : w.ownsRow base' e size v n xs := by
  refine ⟨h.1, ?_⟩
  rcases h.2 with h2 | ⟨g, cap, cur, h1, h2, h3⟩
  · exact Or.inl h2
  · exact Or.inr ⟨g, cap, cur, h1, Nat.le_trans hb h2, h3⟩
def vlenM : Value → Nat | .slice _ n _ => n | _ => 0
theorem grown_bel {w wr w' : World} {row : Option Nat} (h : w.grownBy wr row) (hb : Below wr.heap.size wr w') : w.grownBy w' row :=
  ⟨hb.os.trans h.os, hb.tape.trans h.tape, hb.output.trans h.output, Nat.le_trans h.size hb.size, fun k hk hne => (hb.block k (Nat.lt_of_lt_of_le hk h.size)).trans (h.block k hk hne)⟩
/-- A list of the call's own (values) beside the source. -/
structure MV (t : TypeId) (sz : Nat) (w wr : World) (b : Nat) (A : Option Addr) (n c M : Nat) (cs : List Int) (v : Value) (j : Nat) (vs : List Value) : Prop where
  src : Src wr b A n c M cs
  row : wr.ownsRow w.heap.size t sz v j vs
  gr : w.grownBy wr (some b)
section
variable {t : TypeId} {sz : Nat} {w wr w' : World} {b : Nat} {A : Option Addr} {n c M M' : Nat} {cs : List Int} {v v' : Value} {j j' : Nat} {vs ys : List Value}
theorem MV.later (h : MV t sz w wr b A n c M cs v j vs) (hb : Below wr.heap.size wr w') : MV t sz w w' b A n c M cs v j vs := ⟨h.src.later hb, row_below h.row hb, grown_bel h.gr hb⟩
theorem MV.alloc (h : MV t sz w wr b A n c M cs v j vs) (o : Obj) : MV t sz w (wr.alloc o) b A n c M cs v j vs := h.later (Below.alloc (Below.refl _ _) (Nat.le_refl _) o)
theorem MV.draw (h : MV t sz w wr b A n c M cs v j vs) (hb : b < w.heap.size) (hs : Src w' b A n c M' cs) (hg : wr.grownBy w' (some b)) : MV t sz w w' b A n c M' cs v j vs :=
  ⟨hs, own_over h.row hg (by intro e; have := (h.row.lt b e).1; omega), grown_tr h.gr hg⟩
theorem MV.app (h : MV t sz w wr b A n c M cs v j vs) (hb : b < w.heap.size) (hab : ∀ b' off, A = some ⟨b', off, none⟩ → 0 < n → b' < w.heap.size) (hown : w'.ownsRow w.heap.size t sz v' j' ys) (hg : wr.grownBy w' v.ownBlock) : MV t sz w w' b A n c M cs v' j' ys :=
  ⟨h.src.over hg (by intro e; have := (h.row.lt b e).1; omega) (fun b' off e hn e2 => by have := (h.row.lt b' e2).1; have := hab b' off e hn; omega),
   hown,
   ⟨hg.os.trans h.gr.os, hg.tape.trans h.gr.tape, hg.output.trans h.gr.output, Nat.le_trans h.gr.size hg.size, fun q hq hne => (hg.block q (Nat.lt_of_lt_of_le hq h.gr.size) (fun e => by have := (h.row.lt q e.symm).1; omega)).trans (h.gr.block q hq hne)⟩⟩
theorem MV.mono (h : MV t sz w wr b A n c M cs v j vs) (hM : M ≤ M') : MV t sz w wr b A n c M' cs v j vs := ⟨h.src.mono hM, h.row, h.gr⟩
end
theorem sl_grown {w wr : World} {B sz m b : Nat} {A : Option Addr} {vs : List Value} (hs : Sl w B sz A m vs) (hg : w.grownBy wr (some b)) (hne : ∀ b' off, A = some ⟨b', off, none⟩ → b' ≠ b) : Sl wr B sz A m vs := by
  refine ⟨hs.1, fun hn => ?_⟩
  obtain ⟨b', off, e, hb', hc⟩ := hs.2 hn
  exact ⟨b', off, e, hb', fun j u hu => hg.cell (hc j u hu) (by intro e2; injection e2 with e2; exact hne b' off e e2)⟩
theorem made_two (v : Value) (n : Nat) : madeCells #[v, v] (n * 2) = (List.replicate (n * 2) v).toArray := by
  apply Array.ext_getElem?
  intro i
  unfold madeCells
  rw [Array.getElem?_map]
  rcases Nat.lt_or_ge i (n * 2) with h | h
  · have : i % 2 = 0 ∨ i % 2 = 1 := by omega
    rcases this with e | e <;> simp [h, e]
  · simp [h]
theorem row_of_blkN {w : World} {g base sz n : Nat} {t : TypeId} {vs : List Value} (h : Blk w g t vs.toArray) (hb : base ≤ g) (hl : vs.length = n * sz) (hm : n ≤ maxLen) : w.ownsRow base t sz (.slice (some ⟨g, 0, none⟩) n n) n vs :=
  ⟨hl, .inr ⟨g, n, vs.toArray, rfl, hb, h, Nat.le_refl _, hm, by simpa using hl, by simp [← hl]⟩⟩
end Go.Proofs.Ytcfbihponecblaa
/- Packed lists, plainly: numbers as bytes, runs, checksums. No conditions. -/
namespace Go.Proofs.Ytcfbihponecblaa
set_option linter.unusedSimpArgs false
set_option linter.unusedVariables false

def putU (u : Nat) : List UInt8 := if u < 128 then [UInt8.ofNat u] else UInt8.ofNat (u % 128 + 128) :: putU (u / 128)
termination_by u
decreasing_by omega
def zig (n : Int) : Nat := if n < 0 then (-2 * n - 1).toNat else (2 * n).toNat
def unzig (u : Nat) : Int := if u % 2 = 1 then -(((u + 1) / 2 : Nat) : Int) else ((u / 2 : Nat) : Int)
def putL (n : Int) : List UInt8 := putU (zig n)
def isItemR (n : Int) : Bool := decide (-1000000 ≤ n ∧ n ≤ 1000000)
theorem unzig_zig (n : Int) : unzig (zig n) = n := by
  unfold zig unzig
  split
  · rw [if_pos (by omega)]; omega
  · rw [if_neg (by omega)]; omega
theorem zig_unzig (u : Nat) : zig (unzig u) = u := by
  unfold zig unzig
  split
  · rw [if_pos (by omega)]; omega
  · rw [if_neg (by omega)]; omega
theorem zig_le {n : Int} (h : isItemR n = true) : zig n ≤ 2000000 := by
  simp only [isItemR, decide_eq_true_eq] at h
  unfold zig
  split <;> omega
theorem item_of {u : Nat} (h : isItemR (unzig u) = true) : u ≤ 2000000 := by
  have := zig_le h
  rwa [zig_unzig] at this
theorem putU_small {u : Nat} (h : u < 128) : putU u = [UInt8.ofNat u] := by rw [putU, if_pos h]
theorem putU_big {u : Nat} (h : 128 ≤ u) : putU u = UInt8.ofNat (u % 128 + 128) :: putU (u / 128) := by rw [putU, if_neg (by omega)]
theorem putU_ne (u : Nat) : putU u ≠ [] := by
  rcases Nat.lt_or_ge u 128 with h | h
  · rw [putU_small h]; simp
  · rw [putU_big h]; simp
theorem putU_len (u : Nat) (h : u ≤ 2000000) : 1 ≤ (putU u).length ∧ (putU u).length ≤ 3 := by
  rcases Nat.lt_or_ge u 128 with h1 | h1
  · rw [putU_small h1]; simp
  · rw [putU_big h1]
    rcases Nat.lt_or_ge (u / 128) 128 with h2 | h2
    · rw [putU_small h2]; simp
    · rw [putU_big h2]
      rw [putU_small (u := u / 128 / 128) (by omega)]; simp
/-- The number at the head of some bytes, of fewer than a number of bytes, and how many bytes it takes. -/
def decU : Nat → List UInt8 → Option (Nat × Nat)
  | 0, _ => none
  | _ + 1, [] => none
  | f + 1, b :: r => if b.toNat < 128 then some (b.toNat, 1) else match decU f r with
    | some (u, k) => some (b.toNat % 128 + 128 * u, k + 1)
    | none => none
theorem u8_small {u : Nat} (h : u < 128) : (UInt8.ofNat u).toNat = u := by rw [UInt8.toNat_ofNat']; omega
theorem u8_big (u : Nat) : (UInt8.ofNat (u % 128 + 128)).toNat = u % 128 + 128 := by rw [UInt8.toNat_ofNat']; omega
theorem decU_put (f u : Nat) (r : List UInt8) (h : (putU u).length ≤ f) : decU f (putU u ++ r) = some (u, (putU u).length) := by
  induction f generalizing u with
  | zero => exact absurd (List.eq_nil_of_length_eq_zero (Nat.le_zero.1 h)) (putU_ne u)
  | succ f ih =>
    rcases Nat.lt_or_ge u 128 with h1 | h1
    · rw [putU_small h1]
      simp only [List.cons_append, List.nil_append, decU, u8_small h1, if_pos h1]
      rfl
    · rw [putU_big h1] at h ⊢
      simp only [List.cons_append, decU, u8_big]
      rw [if_neg (by omega), ih (u / 128) (by simpa using h)]
      simp only [List.length_cons]
      congr 2
      omega
theorem decU_len : ∀ (f : Nat) (l : List UInt8) (u k : Nat), decU f l = some (u, k) → 1 ≤ k ∧ k ≤ f ∧ k ≤ l.length
  | 0, _, _, _, h => by simp [decU] at h
  | _ + 1, [], _, _, h => by simp [decU] at h
  | f + 1, b :: r, u, k, h => by
    rw [decU] at h
    split at h
    · simp only [Option.some.injEq, Prod.mk.injEq] at h
      obtain ⟨rfl, rfl⟩ := h
      simp
    · split at h
      next u' k' e =>
        simp only [Option.some.injEq, Prod.mk.injEq] at h
        obtain ⟨rfl, rfl⟩ := h
        have := decU_len f r u' k' e
        simp; omega
      next => simp at h
/-- The program's number at a place: canonical and in range, or none. -/
def getI (l : List UInt8) : Option (Int × Nat) := match decU 4 l with
  | some (u, k) => if isItemR (unzig u) && (putL (unzig u) == l.take k) then some (unzig u, k) else none
  | none => none
/-- The reference's number at a place. -/
def getS (l : List UInt8) : Option (Int × Nat) := match decU 5 l with
  | some (u, k) => if (decide (k = 1) || !(l.getD (k - 1) 0 == 0)) && isItemR (unzig u) then some (unzig u, k) else none
  | none => none
theorem put_item_len {n : Int} (h : isItemR n = true) : 1 ≤ (putL n).length ∧ (putL n).length ≤ 3 := putU_len _ (zig_le h)
theorem getI_put {n : Int} (r : List UInt8) (h : isItemR n = true) : getI (putL n ++ r) = some (n, (putL n).length) := by
  have hl := put_item_len h
  unfold getI
  rw [putL, decU_put 4 (zig n) r (by unfold putL at hl; omega)]
  simp only [unzig_zig, h, Bool.true_and]
  rw [if_pos]
  rw [putL, List.take_left', beq_self_eq_true]
  rfl
theorem getI_some {l : List UInt8} {n : Int} {k : Nat} (h : getI l = some (n, k)) : isItemR n = true ∧ l = putL n ++ l.drop k ∧ k = (putL n).length := by
  unfold getI at h
  split at h
  next u k' e =>
    split at h
    next c =>
      simp only [Option.some.injEq, Prod.mk.injEq] at h
      obtain ⟨rfl, rfl⟩ := h
      rw [Bool.and_eq_true, beq_iff_eq] at c
      have hk := decU_len _ _ _ _ e
      refine ⟨c.1, ?_, ?_⟩
      · rw [c.2, List.take_append_drop]
      · rw [c.2, List.length_take]; omega
    next => simp at h
  next => simp at h
/-- A canonical number's last byte is not 0, unless it stands alone. -/
theorem put_last (u : Nat) : (putU u).length = 1 ∨ ∀ r, ((putU u) ++ r).getD ((putU u).length - 1) 0 ≠ 0 := by
  induction u using Nat.strongRecOn with
  | _ u ih =>
    rcases Nat.lt_or_ge u 128 with h1 | h1
    · left; rw [putU_small h1]; rfl
    · right
      intro r
      rw [putU_big h1]
      have hn := putU_ne (u / 128)
      have hlen : 1 ≤ (putU (u / 128)).length := List.length_pos_iff.2 hn
      have e1 : (UInt8.ofNat (u % 128 + 128) :: putU (u / 128)).length - 1 = (putU (u / 128)).length - 1 + 1 := by rw [List.length_cons]; omega
      rw [e1, List.cons_append, List.getD_cons_succ]
      rcases ih (u / 128) (by omega) with h | h
      · rcases Nat.lt_or_ge (u / 128) 128 with h2 | h2
        · rw [putU_small h2]
          simp only [List.length_singleton, Nat.sub_self, List.cons_append, List.getD_cons_zero]
          intro hc
          have := congrArg UInt8.toNat hc
          rw [u8_small h2] at this
          simp at this
          omega
        · rw [putU_big h2, List.length_cons] at h
          exact absurd (List.eq_nil_of_length_eq_zero (by omega)) (putU_ne (u / 128 / 128))
      · exact h r
/-- Bytes that read as a number with a last byte that is not 0 are the number's own. -/
theorem put_dec : ∀ (f : Nat) (l : List UInt8) (u k : Nat), decU f l = some (u, k) → (k = 1 ∨ l.getD (k - 1) 0 ≠ 0) → putU u = l.take k ∧ (0 < u ∨ k = 1)
  | 0, _, _, _, h, _ => by simp [decU] at h
  | _ + 1, [], _, _, h, _ => by simp [decU] at h
  | f + 1, b :: r, u, k, h, hz => by
    have hb := b.toNat_lt
    rw [decU] at h
    split at h
    next h1 =>
      simp only [Option.some.injEq, Prod.mk.injEq] at h
      obtain ⟨rfl, rfl⟩ := h
      refine ⟨?_, Or.inr rfl⟩
      rw [putU_small h1]
      simp
    next h1 =>
      split at h
      next u' k' e =>
        simp only [Option.some.injEq, Prod.mk.injEq] at h
        obtain ⟨rfl, rfl⟩ := h
        have hl := decU_len _ _ _ _ e
        have hz' : r.getD (k' - 1) 0 ≠ 0 := by
          rcases hz with hz | hz
          · omega
          · have e1 : k' + 1 - 1 = k' - 1 + 1 := by omega
            rw [e1, List.getD_cons_succ] at hz
            exact hz
        obtain ⟨h2, h3⟩ := put_dec f r u' k' e (Or.inr hz')
        have hu : 0 < u' := by
          rcases h3 with h3 | h3
          · exact h3
          · subst h3
            rcases Nat.eq_zero_or_pos u' with h0 | h0
            · subst h0
              rw [putU_small (by omega)] at h2
              exfalso
              apply hz'
              cases r with
              | nil => simp at h2
              | cons c r => 
                simp only [List.take_succ_cons, List.take_zero, List.cons.injEq, and_true] at h2
                simp only [Nat.sub_self, List.getD_cons_zero]
                exact h2.symm
            · exact h0
        refine ⟨?_, Or.inl (by omega)⟩
        rw [putU_big (by omega), List.take_succ_cons]
        have e1 : (b.toNat % 128 + 128 * u') / 128 = u' := by omega
        have e2 : (b.toNat % 128 + 128 * u') % 128 + 128 = b.toNat := by omega
        rw [e1, e2, h2]
        simp
      next => simp at h
theorem getS_put {n : Int} (r : List UInt8) (h : isItemR n = true) : getS (putL n ++ r) = some (n, (putL n).length) := by
  have hl := put_item_len h
  unfold getS
  rw [putL, decU_put 5 (zig n) r (by unfold putL at hl; omega)]
  simp only [unzig_zig, h, Bool.and_true]
  rw [if_pos]
  rcases put_last (zig n) with h1 | h1
  · simp [h1]
  · have := h1 r
    simp only [Bool.or_eq_true, decide_eq_true_eq, Bool.not_eq_true', beq_eq_false_iff_ne]
    exact Or.inr this
theorem getS_some {l : List UInt8} {n : Int} {k : Nat} (h : getS l = some (n, k)) : isItemR n = true ∧ l = putL n ++ l.drop k ∧ k = (putL n).length := by
  unfold getS at h
  split at h
  next u k' e =>
    split at h
    next c =>
      simp only [Option.some.injEq, Prod.mk.injEq] at h
      obtain ⟨rfl, rfl⟩ := h
      rw [Bool.and_eq_true, Bool.or_eq_true, decide_eq_true_eq, Bool.not_eq_true', beq_eq_false_iff_ne] at c
      have hk := decU_len _ _ _ _ e
      have h2 := (put_dec _ _ _ _ e c.1).1
      have h3 : putL (unzig u) = l.take k' := by rw [putL, zig_unzig, h2]
      refine ⟨c.2, ?_, ?_⟩
      · rw [h3, List.take_append_drop]
      · rw [h3, List.length_take]; omega
    next => simp at h
  next => simp at h
/-- Both read the same. -/
theorem getI_getS (l : List UInt8) : getI l = getS l := by
  apply Option.ext
  rintro ⟨n, k⟩
  constructor
  · intro h
    obtain ⟨h1, h2, h3⟩ := getI_some h
    rw [h2, h3]
    exact getS_put _ h1
  · intro h
    obtain ⟨h1, h2, h3⟩ := getS_some h
    rw [h2, h3]
    exact getI_put _ h1
/-- Runs. -/
def addRun (rs : List (Int × Int)) (x : Int) : List (Int × Int) := match rs.getLast? with
  | some (v, t) => if v = x then rs.dropLast ++ [(v, t + 1)] else rs ++ [(x, 1)]
  | none => rs ++ [(x, 1)]
def runsL (l : List Int) : List (Int × Int) := l.foldl addRun []
def bodyR (rs : List (Int × Int)) : List UInt8 := putL rs.length ++ rs.flatMap fun r => putL r.1 ++ putL r.2
def sumL (l : List UInt8) : Nat := l.foldl (fun s b => (31 * s + b.toNat) % 65521) 1
def tailL (l : List UInt8) : List UInt8 := [UInt8.ofNat (sumL l / 256), UInt8.ofNat (sumL l % 256)]
def packL (l : List Int) : List UInt8 := bodyR (runsL l) ++ tailL (bodyR (runsL l))
def okItems (l : List Int) : Bool := l.all isItemR && decide (l.length ≤ 4000)
def expand (rs : List (Int × Int)) : List Int := rs.flatMap fun r => List.replicate r.2.toNat r.1
theorem sumL_snoc (l : List UInt8) (b : UInt8) : sumL (l ++ [b]) = (31 * sumL l + b.toNat) % 65521 := by rw [sumL, sumL, List.foldl_append]; rfl
theorem sumL_lt (l : List UInt8) : sumL l < 65521 := by
  rcases List.eq_nil_or_concat l with rfl | ⟨l', b, rfl⟩
  · decide
  · rw [List.concat_eq_append, sumL_snoc]; omega
theorem runsL_snoc (l : List Int) (x : Int) : runsL (l ++ [x]) = addRun (runsL l) x := by rw [runsL, runsL, List.foldl_append]; rfl
/-- What runs of a list are like. -/
structure GoodRuns (l : List Int) (rs : List (Int × Int)) : Prop where
  exp : expand rs = l
  pos : ∀ r ∈ rs, 1 ≤ r.2 ∧ r.2 ≤ l.length
  mem : ∀ r ∈ rs, r.1 ∈ l
  len : rs.length ≤ l.length
theorem expand_snoc (rs : List (Int × Int)) (x : Int) (t : Int) : expand (rs ++ [(x, t)]) = expand rs ++ List.replicate t.toNat x := by simp [expand]
theorem good_add {l : List Int} {rs : List (Int × Int)} (h : GoodRuns l rs) (x : Int) : GoodRuns (l ++ [x]) (addRun rs x) := by
  rcases List.eq_nil_or_concat rs with rfl | ⟨rs', ⟨v, t⟩, rfl⟩
  · have e : l = [] := by rw [← h.exp]; rfl
    subst e
    simp only [addRun, List.getLast?_nil, List.nil_append]
    exact ⟨by simp [expand], by simp, by simp, by simp⟩
  · rw [List.concat_eq_append] at h ⊢
    have hp := h.pos (v, t) (by simp)
    have hm := h.mem (v, t) (by simp)
    simp only at hp hm
    have hlen := h.len
    rw [List.length_append, List.length_singleton] at hlen
    simp only [addRun, List.getLast?_append, List.getLast?_singleton, Option.some_or, List.dropLast_concat]
    by_cases hv : v = x
    · subst hv
      rw [if_pos rfl]
      refine ⟨?_, ?_, ?_, ?_⟩
      · rw [← h.exp, expand_snoc, expand_snoc, List.append_assoc]
        congr 1
        rw [show (t + 1).toNat = t.toNat + 1 by omega, List.replicate_succ']
      · intro r hr
        rw [List.length_append, List.length_singleton]
        rw [List.mem_append, List.mem_singleton] at hr
        rcases hr with hr | rfl
        · have := h.pos r (by simp [hr]); omega
        · simp only; omega
      · intro r hr
        rw [List.mem_append, List.mem_singleton] at hr
        rcases hr with hr | rfl
        · exact List.mem_append_left _ (h.mem r (by simp [hr]))
        · simp
      · rw [List.length_append, List.length_append, List.length_singleton, List.length_singleton]; omega
    · rw [if_neg hv]
      refine ⟨?_, ?_, ?_, ?_⟩
      · rw [expand_snoc, h.exp]; rfl
      · intro r hr
        rw [List.length_append, List.length_singleton]
        rw [List.mem_append, List.mem_singleton] at hr
        rcases hr with hr | rfl
        · have := h.pos r hr; omega
        · simp only; omega
      · intro r hr
        rw [List.mem_append, List.mem_singleton] at hr
        rcases hr with hr | rfl
        · exact List.mem_append_left _ (h.mem r hr)
        · simp
      · simp only [List.length_append, List.length_singleton]; omega
theorem good_runs (l : List Int) : GoodRuns l (runsL l) := by
  suffices h : ∀ k, GoodRuns (l.take k) (runsL (l.take k)) by
    have := h l.length
    rwa [List.take_length] at this
  intro k
  induction k with
  | zero => exact ⟨rfl, by simp [runsL], by simp [runsL], by simp [runsL]⟩
  | succ k ih =>
    rcases Nat.lt_or_ge k l.length with h | h
    · rw [List.take_succ_eq_append_getElem h, runsL_snoc]
      exact good_add ih _
    · rw [List.take_of_length_le (by omega)]
      rwa [List.take_of_length_le h] at ih
/-- No two runs that follow one another hold the same. -/
def Parted : List (Int × Int) → Prop
  | [] => True
  | [_] => True
  | a :: b :: r => a.1 ≠ b.1 ∧ Parted (b :: r)
theorem parted_snoc : ∀ (rs : List (Int × Int)) (r : Int × Int), Parted rs → (∀ q, rs.getLast? = some q → q.1 ≠ r.1) → Parted (rs ++ [r])
  | [], _, _, _ => trivial
  | [a], r, _, h => ⟨h a rfl, trivial⟩
  | a :: b :: rs, r, hp, h => ⟨hp.1, parted_snoc (b :: rs) r hp.2 (fun q hq => h q (by rw [List.getLast?_cons_cons]; exact hq))⟩
theorem parted_add {rs : List (Int × Int)} (h : Parted rs) (x : Int) : Parted (addRun rs x) := by
  rcases List.eq_nil_or_concat rs with rfl | ⟨rs', ⟨v, t⟩, rfl⟩
  · exact trivial
  · rw [List.concat_eq_append] at h ⊢
    simp only [addRun, List.getLast?_append, List.getLast?_singleton, Option.some_or, List.dropLast_concat]
    by_cases hv : v = x
    · rw [if_pos hv]
      clear hv
      induction rs' with
      | nil => exact trivial
      | cons a rs' ih =>
        cases rs' with
        | nil => exact h
        | cons b rs' => exact ⟨h.1, ih h.2⟩
    · rw [if_neg hv]
      exact parted_snoc _ _ h (fun q hq => by
        rw [List.getLast?_append, List.getLast?_singleton, Option.some_or, Option.some.injEq] at hq
        subst hq
        exact hv)
theorem parted_runs (l : List Int) : Parted (runsL l) := by
  suffices h : ∀ (l : List Int) (rs : List (Int × Int)), Parted rs → Parted (l.foldl addRun rs) from h l [] trivial
  intro l
  induction l with
  | nil => intro rs h; exact h
  | cons x l ih => intro rs h; exact ih _ (parted_add h x)
theorem parted_at : ∀ {rs : List (Int × Int)}, Parted rs → ∀ i, i + 1 < rs.length → (rs.getD (i + 1) (0, 0)).1 ≠ (rs.getD i (0, 0)).1
  | [], _, i, hi => by simp at hi
  | [_], _, i, hi => by simp at hi
  | a :: b :: rs, h, 0, _ => fun e => h.1 e.symm
  | a :: b :: rs, h, i + 1, hi => by
    have := parted_at h.2 i (by simpa using hi)
    simpa using this
/-- The program's reading of runs: as many as are told. -/
def takeRuns (get : List UInt8 → Option (Int × Nat)) : Nat → List UInt8 → Option (List (Int × Int) × List UInt8)
  | 0, l => some ([], l)
  | c + 1, l => match get l with
    | none => none
    | some (v, k) => match get (l.drop k) with
      | none => none
      | some (t, j) => match takeRuns get c ((l.drop k).drop j) with
        | none => none
        | some (rs, r) => some ((v, t) :: rs, r)
def okRuns (rs : List (Int × Int)) : Bool := rs.all fun r => isItemR r.1 && decide (1 ≤ r.2 ∧ r.2 ≤ 4000)
def fromRuns (rs : List (Int × Int)) : Option (List Int) := if okRuns rs && decide ((expand rs).length ≤ 4000) then some (expand rs) else none
def unpackI (l : List UInt8) : Option (List Int) := match getI l with
  | none => none
  | some (c, k) => if 0 ≤ c ∧ c ≤ 4000 then match takeRuns getI c.toNat (l.drop k) with
    | none => none
    | some (rs, _) => fromRuns rs
    else none
def unpackS (l : List UInt8) : Option (List Int) := match getS l with
  | none => none
  | some (c, k) => match takeRuns getS c.toNat (l.drop k) with
    | none => none
    | some (rs, r) => if r = [] then fromRuns rs else none
theorem takeRuns_put {get : List UInt8 → Option (Int × Nat)} (hg : ∀ n r, isItemR n = true → get (putL n ++ r) = some (n, (putL n).length)) : ∀ (rs : List (Int × Int)) (r : List UInt8), (∀ q ∈ rs, isItemR q.1 = true ∧ isItemR q.2 = true) → takeRuns get rs.length ((rs.flatMap fun q => putL q.1 ++ putL q.2) ++ r) = some (rs, r)
  | [], r, _ => rfl
  | q :: rs, r, h => by
    obtain ⟨h1, h2⟩ := h q (by simp)
    rw [List.length_cons, takeRuns, List.flatMap_cons, List.append_assoc, List.append_assoc, hg _ _ h1]
    simp only
    rw [List.drop_left', hg _ _ h2]
    · simp only
      rw [List.drop_left', takeRuns_put hg rs r (fun x hx => h x (by simp [hx]))]
      rfl
    · rfl
theorem okItems_item {l : List Int} (h : okItems l = true) : ∀ x ∈ l, isItemR x = true := by
  rw [okItems, Bool.and_eq_true] at h
  exact fun x hx => List.all_eq_true.1 h.1 x hx
theorem okItems_len {l : List Int} (h : okItems l = true) : l.length ≤ 4000 := by
  rw [okItems, Bool.and_eq_true, decide_eq_true_eq] at h
  exact h.2
theorem item_small {n : Int} (h1 : 0 ≤ n) (h2 : n ≤ 4000) : isItemR n = true := by rw [isItemR, decide_eq_true_eq]; omega
theorem runs_items {l : List Int} (h : okItems l = true) : ∀ q ∈ runsL l, isItemR q.1 = true ∧ isItemR q.2 = true := fun q hq => by
  have g := good_runs l
  have hl := okItems_len h
  have := g.pos q hq
  exact ⟨okItems_item h _ (g.mem q hq), item_small (by omega) (by omega)⟩
theorem fromRuns_runs {l : List Int} (h : okItems l = true) : fromRuns (runsL l) = some l := by
  have g := good_runs l
  have hl := okItems_len h
  rw [fromRuns, g.exp, if_pos]
  rw [Bool.and_eq_true, decide_eq_true_eq]
  refine ⟨List.all_eq_true.2 fun q hq => ?_, hl⟩
  have := g.pos q hq
  rw [Bool.and_eq_true, decide_eq_true_eq]
  exact ⟨(runs_items h q hq).1, by omega, by omega⟩
theorem runs_count {l : List Int} (h : okItems l = true) : isItemR ((runsL l).length : Nat) = true ∧ (runsL l).length ≤ 4000 := by
  have g := (good_runs l).len
  have hl := okItems_len h
  exact ⟨item_small (by omega) (by omega), by omega⟩
theorem unpackI_body {l : List Int} (h : okItems l = true) : unpackI (bodyR (runsL l)) = some l := by
  obtain ⟨hc, hc2⟩ := runs_count h
  rw [unpackI, bodyR, getI_put _ hc]
  simp only
  rw [if_pos (by omega), List.drop_left', Int.toNat_natCast]
  · have := takeRuns_put (get := getI) (fun n r hn => getI_put r hn) (runsL l) [] (runs_items h)
    rw [List.append_nil] at this
    rw [this]
    exact fromRuns_runs h
  · rfl
theorem unpackS_body {l : List Int} (h : okItems l = true) : unpackS (bodyR (runsL l)) = some l := by
  obtain ⟨hc, hc2⟩ := runs_count h
  rw [unpackS, bodyR, getS_put _ hc]
  simp only
  rw [List.drop_left', Int.toNat_natCast]
  · have := takeRuns_put (get := getS) (fun n r hn => getS_put r hn) (runsL l) [] (runs_items h)
    rw [List.append_nil] at this
    rw [this]
    simp only [if_true]
    exact fromRuns_runs h
  · rfl
theorem fromRuns_ok {rs : List (Int × Int)} {l : List Int} (h : fromRuns rs = some l) : okItems l = true := by
  rw [fromRuns] at h
  split at h
  next c =>
    simp only [Option.some.injEq] at h
    subst h
    rw [Bool.and_eq_true, decide_eq_true_eq] at c
    rw [okItems, Bool.and_eq_true, decide_eq_true_eq]
    refine ⟨List.all_eq_true.2 fun x hx => ?_, c.2⟩
    rw [expand, List.mem_flatMap] at hx
    obtain ⟨q, hq, hx⟩ := hx
    have := List.all_eq_true.1 c.1 q hq
    rw [Bool.and_eq_true] at this
    rw [List.mem_replicate] at hx
    rw [hx.2]
    exact this.1
  next => simp at h
def pickI (s : List UInt8) : Option (List Int) := if s.length < 3 then none else match unpackI (s.take (s.length - 2)) with
  | some l => if packL l = s then some l else none
  | none => none
def pickS (s : List UInt8) : Option (List Int) := if s.length < 3 ∨ tailL (s.take (s.length - 2)) ≠ s.drop (s.length - 2) then none else match unpackS (s.take (s.length - 2)) with
  | some l => if packL l = s then some l else none
  | none => none
theorem unpackI_ok {b : List UInt8} {l : List Int} (h : unpackI b = some l) : okItems l = true := by
  rw [unpackI] at h
  split at h
  next => simp at h
  next =>
    split at h
    next =>
      split at h
      next => simp at h
      next => exact fromRuns_ok h
    next => simp at h
theorem unpackS_ok {b : List UInt8} {l : List Int} (h : unpackS b = some l) : okItems l = true := by
  rw [unpackS] at h
  split at h
  next => simp at h
  next =>
    split at h
    next => simp at h
    next =>
      split at h
      next => exact fromRuns_ok h
      next => simp at h
theorem pack_len (l : List Int) (h : okItems l = true) : 3 ≤ (packL l).length := by
  have := (put_item_len (runs_count h).1).1
  simp only [packL, bodyR, tailL, List.length_append, List.length_cons, List.length_nil]
  omega
theorem pack_take (l : List Int) : (packL l).take ((packL l).length - 2) = bodyR (runsL l) ∧ (packL l).drop ((packL l).length - 2) = tailL (bodyR (runsL l)) := by
  have e : (packL l).length - 2 = (bodyR (runsL l)).length := by simp [packL, tailL]
  rw [e, packL]
  exact ⟨List.take_left' rfl, List.drop_left' rfl⟩
theorem pickI_iff {s : List UInt8} {l : List Int} : pickI s = some l ↔ okItems l = true ∧ packL l = s := by
  constructor
  · intro h
    rw [pickI] at h
    split at h
    · simp at h
    · split at h
      next l' e =>
        split at h
        next c =>
          simp only [Option.some.injEq] at h
          subst h
          exact ⟨unpackI_ok e, c⟩
        next => simp at h
      next => simp at h
  · rintro ⟨h, rfl⟩
    have := pack_len l h
    rw [pickI, if_neg (by omega), (pack_take l).1, unpackI_body h]
    simp
theorem pickS_iff {s : List UInt8} {l : List Int} : pickS s = some l ↔ okItems l = true ∧ packL l = s := by
  constructor
  · intro h
    rw [pickS] at h
    split at h
    · simp at h
    · split at h
      next l' e =>
        split at h
        next c =>
          simp only [Option.some.injEq] at h
          subst h
          exact ⟨unpackS_ok e, c⟩
        next => simp at h
      next => simp at h
  · rintro ⟨h, rfl⟩
    have := pack_len l h
    rw [pickS, if_neg, (pack_take l).1, unpackS_body h]
    · simp
    · rw [(pack_take l).1, (pack_take l).2]
      simp only [ne_eq, not_true_eq_false, or_false]
      omega
/-- Both read the same lists out of the same bytes. -/
theorem pick_same (s : List UInt8) : pickI s = pickS s := by
  apply Option.ext
  intro l
  rw [pickI_iff, pickS_iff]
end Go.Proofs.Ytcfbihponecblaa
