/- Numbers as bytes and checksums, by both functions. Conditions: numbers in range. -/
import Derived.Test.YtggnajoocfmgpaaDoorPackP
import Derived.Test.YtggnajoocfmgpaaDoorApp
import Derived.Laws.BytesArg
import Derived.Laws.IdiomStrings
namespace Go.Proofs.YtggnajoocfmgpaaDoor
set_option linter.unusedSimpArgs false
set_option linter.unusedVariables false
open Go.RowKit Go.WideShapes

/-- Bytes as cells. -/
def bV (l : List UInt8) : List Value := l.map fun b => .int .u8 (b.toNat : Int)
theorem bV_app (a b : List UInt8) : bV (a ++ b) = bV a ++ bV b := List.map_append
theorem bV_len (a : List UInt8) : (bV a).length = a.length := List.length_map _
theorem bV_one (l : List UInt8) : ∀ u ∈ bV l, u.oneCell' = true := by
  intro u hu
  rw [bV, List.mem_map] at hu
  obtain ⟨b, _, rfl⟩ := hu
  rfl
theorem info_u8 : (Tryd.prog.info? 5).map (fun i => (i.zero, i.size, i.bytes)) = some (some (.int .u8 0), 1, 1) := by kernel_rfl
/-- A row of bytes of the call's own is the result. -/
def RowPost (l : List UInt8) (w : World) (e : Ending) (w' : World) : Prop := ∃ v q, e = .returned v ∧ w'.ownsRow w.heap.size 5 1 v q (bV l) ∧ q = l.length ∧ Below w.heap.size w w'
/-- A row of bytes becomes a string. -/
theorem row_string {w : World} {base : Nat} {v : Value} {q : Nat} {l : List UInt8} (h : w.ownsRow base 5 1 v q (bV l)) (src e dst : TypeId) (hs : Tryd.prog.underlying src = some (.slice e)) (he : Tryd.prog.underlying e = some (.int .u8)) (hd : Tryd.prog.underlying dst = some .string) :
    (convert src dst v).run Tryd.prog w = .ok (.string ⟨l.toArray⟩) w := by
  have hq : q = l.length := by have := h.1; rw [bV_len] at this; omega
  subst hq
  obtain ⟨A, g, cap, rfl, _, _, _, ho⟩ := own_of_row h
  rcases Nat.eq_zero_or_pos l.length with h0 | h0
  · have hl : l = [] := List.eq_nil_of_length_eq_zero h0
    subst hl
    cases A with
    | none => exact run_convert_bytes_nil w src e hs he _ _ dst hd
    | some a => exact run_convert_bytes_back w src dst e a cap [] hs he hd (fun j hj => by simp at hj)
  · obtain ⟨rfl, rest, hb⟩ := ho.blk h0
    refine run_convert_bytes_back w src dst e _ cap l hs he hd (fun j hj => ?_)
    rw [Go.WideShapes.add_plain, Nat.zero_add, hb.cell, List.getElem?_toArray, List.getElem?_append_left (by rw [bV_len]; exact hj), bV, List.getElem?_map, List.getElem?_eq_getElem hj]
    rfl
theorem put_step {l : List UInt8} {m : Nat} {n : Int} (h : l ++ putU m = putL n) (hm : 128 ≤ m) : (l ++ [UInt8.ofNat (m % 128 + 128)]) ++ putU (m / 128) = putL n := by
  rw [← h, putU_big hm, List.append_assoc]; rfl
theorem put_end {l : List UInt8} {m : Nat} {n : Int} (h : l ++ putU m = putL n) (hm : m < 128) : l ++ [UInt8.ofNat m] = putL n := by
  rw [← h, putU_small hm]
theorem bV_snoc (l : List UInt8) (m : Nat) (h : m < 256) : bV (l ++ [UInt8.ofNat m]) = bV l ++ [.int .u8 (m : Int)] := by
  rw [bV_app]
  congr 1
  simp only [bV, List.map_cons, List.map_nil]
  rw [UInt8.toNat_ofNat', Nat.mod_eq_of_lt h]
theorem zig_neg {n : Int} (h : n < 0) : ((zig n : Nat) : Int) = -2 * n - 1 := by rw [zig, if_pos h]; omega
theorem zig_pos {n : Int} (h : ¬ n < 0) : ((zig n : Nat) : Int) = 2 * n := by rw [zig, if_neg h]; omega
theorem take_snoc (s : ByteArray) (k : Nat) (h : k < s.size) : s.data.toList.take (k + 1) = s.data.toList.take k ++ [s[k]] := by
  rw [List.take_succ_eq_append_getElem (by simpa using h)]; rfl
end Go.Proofs.YtggnajoocfmgpaaDoor
