/- The used slots of a memory counted, by both functions. Conditions: lists below 2^20. -/
import Derived.Test.YtpcenpedbdenmaaSlot8
import Derived.Test.YtpcenpedbdenmaaKeeps
namespace Go.Proofs.Ytpcenpedbdenmaa
set_option linter.unusedSimpArgs false
set_option linter.unusedVariables false
open Go.RowKit Go.WideShapes Go.ChangeShapes Go.Deep

def usedN (ss : List SlotR) : Nat → Nat
  | 0 => 0
  | k + 1 => usedN ss k + (if (ss.getD k dS).u then 1 else 0)
theorem usedN_le (ss : List SlotR) : ∀ k, usedN ss k ≤ k
  | 0 => Nat.le_refl _
  | k + 1 => by have := usedN_le ss k; rw [usedN]; split <;> omega
def fnFilledSlots_0 (d : MemoryD) : Int := if fnValidMemory_0 d then (usedN d.ss d.ss.length : Nat) else 0
def fnFilledSlots_1 (d : MemoryD) : Int := if fnValidMemory_0 d then 0 else 1
theorem fn_ok {r : Ru} {ss : List SlotR} {n : Nat} (hl : ss.length = n) (h : fnValidMemory_0 ⟨r, ss⟩ = true) : n ≤ 64 ∧ fnFilledSlots_0 ⟨r, ss⟩ = (usedN ss n : Nat) ∧ fnFilledSlots_1 ⟨r, ss⟩ = 0 := by
  refine ⟨?_, by rw [fnFilledSlots_0, if_pos h, hl], by rw [fnFilledSlots_1, if_pos h]⟩
  have := okMem_parts h
  simp only at this
  omega
theorem fn_no {d : MemoryD} (h : fnValidMemory_0 d = false) : fnFilledSlots_0 d = 0 ∧ fnFilledSlots_1 d = 1 := by
  rw [fnFilledSlots_0, fnFilledSlots_1, h]; exact ⟨rfl, rfl⟩
set_option maxRecDepth 100000 in
set_option maxHeartbeats 4000000 in
theorem FilledSlots_x (cs : List Value) (d : MemoryD) (w : World) (h : XMemory w cs d) (hb : szMemory d ≤ 1048576) : Calls Try.prog 24 #[.agg cs.toArray] w fun e w' => e = .returned (.tuple #[.int .i64 (fnFilledSlots_0 d), .int .i64 (fnFilledSlots_1 d)]) ∧ Below w.heap.size w w' := by
  have h0 := h
  obtain ⟨A, n, c, rfl, hs, l⟩ := h
  obtain ⟨r, ss⟩ := d
  simp only at *
  have hl := hs.len
  have HX := Lib.hid h0
  have HS := Lib.hid hs
  clear h0 hs
  cases g : fnValidMemory_0 ⟨r, ss⟩
  case false =>
    obtain ⟨e0, e1⟩ := fn_no g
    rw [e0, e1]
    have G := Lib.hid g
    clear g e0 e1
    go_enter Try.func24, Try.ntmps24
    go_wp2_with (go_at_call 22; refine (ValidMemory_x [.int .i64 r.p, .int .i64 r.s, .bool r.st, .bool r.sk, .bool r.re, .bool r.fe, .bool r.ag, .int .i64 r.ca, .int .i64 r.sl, .slice A n c] ⟨r, ss⟩ _ (HX.out.boxed _) hb).mono ?_; rw [G.out]; rintro e w1 ⟨rfl, hb1⟩)
    go_ret2
    exact ⟨rfl, by (repeat' (first | (with_reducible exact Below.refl _ _) | (with_reducible assumption) | (with_reducible refine Below.alloc ?_ ?_ _) | (with_reducible refine Below.drew ?_) | (with_reducible refine belowDrewN ?_ _) | (with_reducible refine Below.setCell ?_ ?_ _) | (with_reducible refine Below.via (by with_reducible assumption) ?_ ?_) | (with_reducible refine Below.viaD (by with_reducible assumption) ?_ ?_) | (with_reducible exact Below.size (by with_reducible assumption)) | go_size | (with_reducible refine Nat.le_trans ?_ (Below.size (by with_reducible assumption))) | (with_reducible refine Nat.le_trans ?_ (sizeAlloc _ _)) | (with_reducible refine Nat.le_trans ?_ (sizeSet _ _ _)) | (with_reducible refine Nat.le_trans ?_ (sizeDrew _))))⟩
  case true =>
    obtain ⟨h64, e0, e1⟩ := fn_ok hl g
    rw [e0, e1]
    have G := Lib.hid g
    have HU := Lib.hid (usedN_le ss)
    clear g e0 e1 hl
    go_enter Try.func24, Try.ntmps24
    go_wp2_with (go_at_call 22; refine (ValidMemory_x [.int .i64 r.p, .int .i64 r.s, .bool r.st, .bool r.sk, .bool r.re, .bool r.fe, .bool r.ag, .int .i64 r.ca, .int .i64 r.sl, .slice A n c] ⟨r, ss⟩ _ (HX.out.boxed _) hb).mono ?_; rw [G.out]; rintro e w1 ⟨rfl, hb1⟩; have hb2 := below_boxed hb1; have m9 := ((Blk.new w 27 #[.int .i64 r.p, .int .i64 r.s, .bool r.st, .bool r.sk, .bool r.re, .bool r.fe, .bool r.ag, .int .i64 r.ca, .int .i64 r.sl, .slice A n c]).later hb1).cell; clear hb1)
    go_loopw [4, 13] (fun u i wr => ∃ k : Nat, k ≤ n ∧ i = .int .i64 k ∧ u = .int .i64 (usedN ss k : Nat) ∧ Below w.heap.size w wr) (fun _ i _ => n - (intOf i).toNat)
    case atStart => exact ⟨0, Nat.zero_le _, rfl, rfl, hb2⟩
    case round =>
      obtain ⟨k, hk, rfl, rfl, hbl⟩ := hrel
      have hu := HU.out k
      by_cases hlt : k < n
      · obtain ⟨b, off, u0, l0, p0, d0, v0, b0, A1, m, c1, rfl, hb', HL, hat, hsl, hm⟩ := (HS.out.later hbl).row hlt
        have HN : Hid (usedN ss (k + 1) = usedN ss k + (if u0 then 1 else 0)) := by unfold Hid; rw [usedN, HL.out]
        obtain ⟨x0, x1, x2, x3, x4, x5⟩ := hat
        obtain ⟨y, hy⟩ : ∃ y, usedN ss k = y := ⟨_, rfl⟩
        rw [hy] at hu HN ⊢
        clear hy
        cases u0
        all_goals
          go_wp2
          go_roundw
          case rel => exact ⟨k + 1, by omega, by go_num, by rw [HN.out]; first | rfl | go_num, by (repeat' (first | (with_reducible exact Below.refl _ _) | (with_reducible assumption) | (with_reducible refine Below.alloc ?_ ?_ _) | (with_reducible refine Below.drew ?_) | (with_reducible refine belowDrewN ?_ _) | (with_reducible refine Below.setCell ?_ ?_ _) | (with_reducible refine Below.via (by with_reducible assumption) ?_ ?_) | (with_reducible refine Below.viaD (by with_reducible assumption) ?_ ?_) | (with_reducible exact Below.size (by with_reducible assumption)) | go_size | (with_reducible refine Nat.le_trans ?_ (Below.size (by with_reducible assumption))) | (with_reducible refine Nat.le_trans ?_ (sizeAlloc _ _)) | (with_reducible refine Nat.le_trans ?_ (sizeSet _ _ _)) | (with_reducible refine Nat.le_trans ?_ (sizeDrew _))))⟩
          case measure => first | (simp [intOf]; done) | (simp [intOf]; omega)
      · obtain rfl : k = n := by omega
        go_wp2
        go_ret2
        exact ⟨rfl, by (repeat' (first | (with_reducible exact Below.refl _ _) | (with_reducible assumption) | (with_reducible refine Below.alloc ?_ ?_ _) | (with_reducible refine Below.drew ?_) | (with_reducible refine belowDrewN ?_ _) | (with_reducible refine Below.setCell ?_ ?_ _) | (with_reducible refine Below.via (by with_reducible assumption) ?_ ?_) | (with_reducible refine Below.viaD (by with_reducible assumption) ?_ ?_) | (with_reducible exact Below.size (by with_reducible assumption)) | go_size | (with_reducible refine Nat.le_trans ?_ (Below.size (by with_reducible assumption))) | (with_reducible refine Nat.le_trans ?_ (sizeAlloc _ _)) | (with_reducible refine Nat.le_trans ?_ (sizeSet _ _ _)) | (with_reducible refine Nat.le_trans ?_ (sizeDrew _))))⟩
set_option maxRecDepth 100000 in
set_option maxHeartbeats 4000000 in
theorem sFilledSlots_x (cs : List Value) (d : MemoryD) (w : World) (h : XMemory w cs d) (hb : szMemory d ≤ 1048576) : Calls Try.prog 23 #[.agg cs.toArray] w fun e w' => e = .returned (.tuple #[.int .i64 (fnFilledSlots_0 d), .int .i64 (fnFilledSlots_1 d)]) ∧ Below w.heap.size w w' := by
  have h0 := h
  obtain ⟨A, n, c, rfl, hs, l⟩ := h
  obtain ⟨r, ss⟩ := d
  simp only at *
  have hl := hs.len
  have HX := Lib.hid h0
  have HS := Lib.hid hs
  have HM : Hid (∀ j, j < n → (ss.getD j dS).ps.length ≤ 1048576) := by
    have h5 := slot_len (ss := ss) (n := ss.length) hb
    rw [hl] at h5
    exact h5
  have HV : Hid (∀ W, RuAt W w.heap.size 0 r → W.cell? ⟨w.heap.size, 9, none⟩ = some (.slice A n c) → Sls W W.heap.size A n ss → Calls Try.prog 53 #[.pointer (some ⟨w.heap.size, 0, none⟩)] W fun e w' => e = .returned (.bool (fnValidMemory_0 ⟨r, ss⟩)) ∧ Below W.heap.size W w') := fun W hr h9 hss => by
    have h5 := l16Ok_any r w.heap.size n c A ss W hr h9 hss l HM.out
    rw [fnValidMemory_0]
    simp only
    rw [hl]
    exact h5
  clear h0 hs HM
  cases g : fnValidMemory_0 ⟨r, ss⟩
  case false =>
    obtain ⟨e0, e1⟩ := fn_no g
    rw [e0, e1]
    have G := Lib.hid g
    clear g e0 e1
    go_enter Try.func23, Try.ntmps23
    go_wp2_with (go_at_call 53; refine (HV.out _ (RuAt.new w 27 r [.slice A n c]) ((Blk.new w 27 #[.int .i64 r.p, .int .i64 r.s, .bool r.st, .bool r.sk, .bool r.re, .bool r.fe, .bool r.ag, .int .i64 r.ca, .int .i64 r.sl, .slice A n c]).cell 9) (HS.out.boxed _)).mono ?_; rw [G.out]; rintro e w1 ⟨rfl, hb1⟩)
    go_ret2
    exact ⟨rfl, by (repeat' (first | (with_reducible exact Below.refl _ _) | (with_reducible assumption) | (with_reducible refine Below.alloc ?_ ?_ _) | (with_reducible refine Below.drew ?_) | (with_reducible refine belowDrewN ?_ _) | (with_reducible refine Below.setCell ?_ ?_ _) | (with_reducible refine Below.via (by with_reducible assumption) ?_ ?_) | (with_reducible refine Below.viaD (by with_reducible assumption) ?_ ?_) | (with_reducible exact Below.size (by with_reducible assumption)) | go_size | (with_reducible refine Nat.le_trans ?_ (Below.size (by with_reducible assumption))) | (with_reducible refine Nat.le_trans ?_ (sizeAlloc _ _)) | (with_reducible refine Nat.le_trans ?_ (sizeSet _ _ _)) | (with_reducible refine Nat.le_trans ?_ (sizeDrew _))))⟩
  case true =>
    obtain ⟨h64, e0, e1⟩ := fn_ok hl g
    rw [e0, e1]
    have G := Lib.hid g
    have HU := Lib.hid (usedN_le ss)
    clear g e0 e1 hl
    go_enter Try.func23, Try.ntmps23
    go_wp2_with (go_at_call 53; refine (HV.out _ (RuAt.new w 27 r [.slice A n c]) ((Blk.new w 27 #[.int .i64 r.p, .int .i64 r.s, .bool r.st, .bool r.sk, .bool r.re, .bool r.fe, .bool r.ag, .int .i64 r.ca, .int .i64 r.sl, .slice A n c]).cell 9) (HS.out.boxed _)).mono ?_; rw [G.out]; rintro e w1 ⟨rfl, hb1⟩; have hb2 := below_boxed hb1; have m9 : w1.cell? ⟨w.heap.size, 9, none⟩ = some (.slice A n c) := ((Blk.new w 27 #[.int .i64 r.p, .int .i64 r.s, .bool r.st, .bool r.sk, .bool r.re, .bool r.fe, .bool r.ag, .int .i64 r.ca, .int .i64 r.sl, .slice A n c]).later hb1).cell 9; clear hb1)
    go_loop [4, 5] (fun u i => ∃ k : Nat, k ≤ n ∧ i = .int .i64 k ∧ u = .int .i64 (usedN ss k : Nat)) (fun _ i => n - (intOf i).toNat)
    case atStart => exact ⟨0, Nat.zero_le _, rfl, rfl⟩
    case round =>
      obtain ⟨k, hk, rfl, rfl⟩ := hrel
      have hu := HU.out k
      by_cases hlt : k < n
      · obtain ⟨b, off, u0, l0, p0, d0, v0, b0, A1, m, c1, rfl, hb', HL, hat, hsl, hm⟩ := (HS.out.later hb2).row hlt
        have HN : Hid (usedN ss (k + 1) = usedN ss k + (if u0 then 1 else 0)) := by unfold Hid; rw [usedN, HL.out]
        obtain ⟨x0, x1, x2, x3, x4, x5⟩ := hat
        obtain ⟨y, hy⟩ : ∃ y, usedN ss k = y := ⟨_, rfl⟩
        rw [hy] at hu HN ⊢
        clear hy
        cases u0
        all_goals
          go_wp2
          go_round
          case rel => exact ⟨k + 1, by omega, by go_num, by rw [HN.out]; first | rfl | go_num⟩
          case measure => first | (simp [intOf]; done) | (simp [intOf]; omega)
      · obtain rfl : k = n := by omega
        go_wp2
        go_ret2
        exact ⟨rfl, hb2⟩
end Go.Proofs.Ytpcenpedbdenmaa
