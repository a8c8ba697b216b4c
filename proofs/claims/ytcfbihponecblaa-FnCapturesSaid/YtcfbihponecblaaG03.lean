/- FlawName: both functions, and the law. No conditions. -/
import Derived.Test.YtcfbihponecblaaG02
import Derived.Test.YtcfbihponecblaaG01
import Derived.Laws.BytesArg
import Derived.Laws.IdiomStrings
import Derived.Test.YtcfbihponecblaaProg
import Derived.Shelf.Strconv.Itoa4
import Derived.Ground.NamesProg
import Derived.Lib.AppendIntMem
import Derived.Lib.ItoaLen
import Derived.Test.YtcfbihponecblaaG00
/- Numbers as bytes and checksums, by both functions. Conditions: numbers in range. -/
namespace Go.Proofs.Ytcfbihponecblaa
set_option linter.unusedSimpArgs false
set_option linter.unusedVariables false
open Go.RowKit Go.WideShapes

/-- Bytes as cells. -/
def bV (l : List UInt8) : List Value := l.map fun b => .int .u8 (b.toNat : Int)
theorem bV_app (a b : List UInt8) : bV (a ++ b) = bV a ++ bV b := List.map_append
theorem bV_len (a : List UInt8) : (bV a).length = a.length := List.length_map _
theorem bV_one (l : List UInt8) : ∀ u ∈ bV l, u.oneCell' = true := by
  intro u hu
  rw [bV, List.mem_map] at hu
  obtain ⟨b, _, rfl⟩ := hu
  rfl
theorem info_u8 : (Try.prog.info? 5).map (fun i => (i.zero, i.size, i.bytes)) = some (some (.int .u8 0), 1, 1) := by kernel_rfl
/-- A row of bytes of the call's own is the result. -/
def RowPost (l : List UInt8) (w : World) (e : Ending) (w' : World) : Prop := ∃ v q, e = .returned v ∧ w'.ownsRow w.heap.size 5 1 v q (bV l) ∧ q = l.length ∧ Below w.heap.size w w'
/-- A row of bytes becomes a string. -/
theorem row_string {w : World} {base : Nat} {v : Value} {q : Nat} {l : List UInt8} (h : w.ownsRow base 5 1 v q (bV l)) (src e dst : TypeId) (hs : Try.prog.underlying src = some (.slice e)) (he : Try.prog.underlying e = some (.int .u8)) (hd : Try.prog.underlying dst = some .string) :
    (convert src dst v).run Try.prog w = .ok (.string ⟨l.toArray⟩) w := by
  have hq : q = l.length := by have := h.1; rw [bV_len] at this; omega
  subst hq
  obtain ⟨A, g, cap, rfl, _, _, _, ho⟩ := own_of_row h
  rcases Nat.eq_zero_or_pos l.length with h0 | h0
  · have hl : l = [] := List.eq_nil_of_length_eq_zero h0
    subst hl
    cases A with
    | none => exact run_convert_bytes_nil w src e hs he _ _ dst hd
    | some a => exact run_convert_bytes_back w src dst e a cap [] hs he hd (fun j hj => by simp at hj)
  · obtain ⟨rfl, rest, hb⟩ := ho.blk h0
    refine run_convert_bytes_back w src dst e _ cap l hs he hd (fun j hj => ?_)
    rw [Go.WideShapes.add_plain, Nat.zero_add, hb.cell, List.getElem?_toArray, List.getElem?_append_left (by rw [bV_len]; exact hj), bV, List.getElem?_map, List.getElem?_eq_getElem hj]
    rfl
theorem put_step {l : List UInt8} {m : Nat} {n : Int} (h : l ++ putU m = putL n) (hm : 128 ≤ m) : (l ++ [UInt8.ofNat (m % 128 + 128)]) ++ putU (m / 128) = putL n := by
  rw [← h, putU_big hm, List.append_assoc]; rfl
theorem put_end {l : List UInt8} {m : Nat} {n : Int} (h : l ++ putU m = putL n) (hm : m < 128) : l ++ [UInt8.ofNat m] = putL n := by
  rw [← h, putU_small hm]
theorem bV_snoc (l : List UInt8) (m : Nat) (h : m < 256) : bV (l ++ [UInt8.ofNat m]) = bV l ++ [.int .u8 (m : Int)] := by
  rw [bV_app]
  congr 1
  simp only [bV, List.map_cons, List.map_nil]
  rw [UInt8.toNat_ofNat', Nat.mod_eq_of_lt h]
theorem zig_neg {n : Int} (h : n < 0) : ((zig n : Nat) : Int) = -2 * n - 1 := by rw [zig, if_pos h]; omega
theorem zig_pos {n : Int} (h : ¬ n < 0) : ((zig n : Nat) : Int) = 2 * n := by rw [zig, if_neg h]; omega
theorem take_snoc (s : ByteArray) (k : Nat) (h : k < s.size) : s.data.toList.take (k + 1) = s.data.toList.take k ++ [s[k]] := by
  rw [List.take_succ_eq_append_getElem (by simpa using h)]; rfl
end Go.Proofs.Ytcfbihponecblaa
/- Decimal forms of numbers, by both functions. Conditions: an int64; the library's table of powers as it is laid. -/
namespace Go.Proofs.Ytcfbihponecblaa
set_option linter.unusedSimpArgs false
set_option linter.unusedVariables false
open Go.RowKit Go.WideShapes

/-- The digits of a number that is not 0. -/
def digs (u : Nat) : List UInt8 := if h : u = 0 then [] else digs (u / 10) ++ [UInt8.ofNat (48 + u % 10)]
termination_by u
decreasing_by omega
theorem digs_zero : digs 0 = [] := by rw [digs, dif_pos rfl]
theorem digs_step {u : Nat} (h : u ≠ 0) : digs u = digs (u / 10) ++ [UInt8.ofNat (48 + u % 10)] := by rw [digs, dif_neg h]
theorem digs_dec (u : Nat) (h : 0 < u) : digs u = Lib.decDigits u := by
  induction u using Nat.strongRecOn with
  | _ u ih =>
    rw [digs_step (by omega), Lib.decDigits]
    by_cases h1 : u < 10
    · rw [dif_pos h1, show u / 10 = 0 by omega, digs_zero, List.nil_append, Nat.mod_eq_of_lt h1]
    · rw [dif_neg h1, ih (u / 10) (by omega) (by omega)]
theorem digs_len (k u : Nat) (h : u < 10 ^ k) : (digs u).length ≤ k := by
  induction k generalizing u with
  | zero =>
    have : u = 0 := by simpa using h
    subst this
    rw [digs_zero]; exact Nat.le_refl _
  | succ k ih =>
    by_cases h0 : u = 0
    · subst h0; rw [digs_zero]; exact Nat.zero_le _
    · rw [digs_step h0, List.length_append]
      have := ih (u / 10) (by rw [Nat.pow_succ] at h; omega)
      simpa using this
theorem digs_len20 {u : Nat} (h : u ≤ 9223372036854775808) : (digs u).length ≤ 20 := digs_len 20 u (by omega)
theorem digs_nil {u : Nat} (h : digs u = []) : u = 0 := by
  by_cases h0 : u = 0
  · exact h0
  · rw [digs_step h0] at h; simp at h
theorem digit_nat (u : Nat) : ((UInt8.ofNat (48 + u % 10)).toNat : Int) = 48 + ((u % 10 : Nat) : Int) := by
  rw [UInt8.toNat_ofNat', Nat.mod_eq_of_lt (by omega)]; omega
theorem bV_cons (c : UInt8) (l : List UInt8) : bV (c :: l) = .int .u8 (c.toNat : Int) :: bV l := rfl
def decS (n : Int) : ByteArray := ⟨(Lib.itoa n).toArray⟩
theorem decS_zero : decS 0 = ⟨#[48]⟩ := by rw [decS, Lib.itoa, if_neg (by omega), show (0 : Int).toNat = 0 from rfl, Lib.decDigits, dif_pos (by omega)]; rfl
theorem decS_pos {n : Int} (h : 0 < n) : decS n = ⟨(digs n.natAbs).toArray⟩ := by
  rw [decS, Lib.itoa, if_neg (by omega), digs_dec _ (by omega), show n.toNat = n.natAbs by omega]
theorem decS_neg {n : Int} (h : n < 0) : decS n = ⟨(45 :: digs n.natAbs).toArray⟩ := by
  rw [decS, Lib.itoa, if_pos h, digs_dec _ (by omega)]
theorem tm_neg {z : Int} (h : z < 0) : z.tmod 10 = -((z.natAbs % 10 : Nat) : Int) ∧ z.tdiv 10 = -((z.natAbs / 10 : Nat) : Int) := by
  obtain ⟨u, rfl⟩ : ∃ u : Nat, z = -(u : Int) := ⟨z.natAbs, by omega⟩
  rw [Int.neg_tmod, Int.neg_tdiv, Int.tmod_eq_emod_of_nonneg (by omega), Int.tdiv_eq_ediv_of_nonneg (by omega)]
  rw [show (-(u : Int)).natAbs = u by omega]
  exact ⟨rfl, rfl⟩
theorem row_made1 {base : Nat} (w : World) (u : Value) (e : TypeId) (hb : base ≤ w.heap.size) : (w.alloc (.cells #[u] e)).ownsRow base e 1 (.slice (some ⟨w.heap.size, 0, none⟩) 1 1) 1 [u] :=
  ⟨by simp, .inr ⟨w.heap.size, 1, #[u], rfl, hb, heap_alloc_new w _, Nat.le_refl _, by unfold maxLen; omega, rfl, by simp⟩⟩
theorem add_bytes (a b : List UInt8) : (⟨a.toArray⟩ : ByteArray) ++ ⟨b.toArray⟩ = ⟨(a ++ b).toArray⟩ := by
  apply ByteArray.ext
  simp
def powName : String := (Rows.fnCapturesRow.laid.map (·.1)).getD 2 ""
/-- The table of powers stands as it was laid. -/
def TabW (w : World) : Prop := Lib.TabBelow Try.prog w.heap.size w powName .u64 Lib.pow10Tab
theorem TabW.later {w w' : World} (h : TabW w) (hb : Below w.heap.size w w') : TabW w' := fun w2 h2 => h w2 (Below.via h2 hb hb.size)
theorem TabW.drewN {w : World} (h : TabW w) (k : Nat) : TabW (w.drewN k) := h.later (belowDrewN (Below.refl _ _) k)
end Go.Proofs.Ytcfbihponecblaa
/- FlawName: both functions, and the law. No conditions. -/
namespace Go.Proofs.Ytcfbihponecblaa
set_option linter.unusedSimpArgs false
set_option linter.unusedVariables false
open Go.RowKit

/-- The name of a kind of flaws. -/
def flawS (k : Int) : ByteArray :=
  if k = 0 then ⟨#[110, 111, 110, 101]⟩ else if k = 1 then ⟨#[101, 110, 100]⟩ else if k = 2 then ⟨#[98, 101, 116, 116, 101, 114]⟩ else if k = 3 then ⟨#[119, 111, 114, 115, 101]⟩ else if k = 4 then ⟨#[114, 97, 110, 107]⟩ else ⟨#[]⟩
theorem flaw_out {k : Int} (h : ¬ (0 ≤ k ∧ k ≤ 4)) : flawS k = ⟨#[]⟩ := by
  unfold flawS
  rw [if_neg (by omega), if_neg (by omega), if_neg (by omega), if_neg (by omega), if_neg (by omega)]
theorem in_of {k : Int} (h : inB k 0 4 = true) : k = 0 ∨ k = 1 ∨ k = 2 ∨ k = 3 ∨ k = 4 := by have := inB_of h; omega
theorem out_of {k : Int} (h : inB k 0 4 = false) : ¬ (0 ≤ k ∧ k ≤ 4) := by simpa [inB] using h
theorem ret_string {a b : ByteArray} (h : a = b) : Ending.returned (.string a) = .returned (.string b) := by rw [h]
end Go.Proofs.Ytcfbihponecblaa
