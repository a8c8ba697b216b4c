/- Valid memories, by the program. Conditions: lists below 2^20. -/
import Derived.Test.YtpcenpedbdenmaaSlot5
namespace Go.Proofs.Ytpcenpedbdenmaa
set_option linter.unusedSimpArgs false
set_option linter.unusedVariables false
open Go.RowKit Go.WideShapes Go.ChangeShapes Go.Deep

def okMem (r : Ru) (n : Nat) (ss : List SlotR) : Bool := okRu r && inB n 1 64 && (List.range n).all fun j => okSlot r n j (ss.getD j dS)
theorem okMem_r {r : Ru} {n : Nat} {ss : List SlotR} (h : okRu r = false) : okMem r n ss = false := by simp [okMem, h]
theorem okMem_n {r : Ru} {n : Nat} {ss : List SlotR} (h : inB n 1 64 = false) : okMem r n ss = false := by simp [okMem, h]
theorem okMem_at {r : Ru} {n : Nat} {ss : List SlotR} {k : Nat} (hk : k < n) (h : okSlot r n k (ss.getD k dS) = false) : okMem r n ss = false := by
  have : ((List.range n).all fun j => okSlot r n j (ss.getD j dS)) = false := by
    rw [Bool.eq_false_iff]
    intro hc
    have := List.all_eq_true.1 hc k (List.mem_range.2 hk)
    rw [h] at this
    exact absurd this (by decide)
  rw [okMem, this, Bool.and_false]
theorem okMem_all {r : Ru} {n : Nat} {ss : List SlotR} (h1 : okRu r = true) (h2 : inB n 1 64 = true) (h : ∀ k, k < n → okSlot r n k (ss.getD k dS) = true) : okMem r n ss = true := by
  have : ((List.range n).all fun j => okSlot r n j (ss.getD j dS)) = true := List.all_eq_true.2 fun k hk => h k (List.mem_range.1 hk)
  rw [okMem, this, h1, h2]; rfl
theorem okMem_parts {r : Ru} {n : Nat} {ss : List SlotR} (h : okMem r n ss = true) : okRu r = true ∧ 1 ≤ n ∧ n ≤ 64 := by
  simp only [okMem, Bool.and_eq_true] at h
  have := inB_of h.1.2
  exact ⟨h.1.1, by omega, by omega⟩
theorem validSlot_any (r : Ru) (A A1 : Option Addr) (n c m c1 : Nat) (i : Int) (s : SlotR) (w : World) (hs : Sl w w.heap.size 1 A1 m (s.ps.map (Value.int .i64))) (hm : m ≤ 1048576) (hn : 1 ≤ n) (hn2 : n ≤ 64) :
    Calls Try.prog 54 #[.agg #[.int .i64 r.p, .int .i64 r.s, .bool r.st, .bool r.sk, .bool r.re, .bool r.fe, .bool r.ag, .int .i64 r.ca, .int .i64 r.sl, .slice A n c], .int .i64 i, .agg #[.bool s.u, .slice A1 m c1, .int .i64 s.p, .int .i64 s.d, .int .i64 s.v, .int .i64 s.b]] w fun e w' => e = .returned (.bool (okSlot r n i s)) ∧ Below w.heap.size w w' := by
  obtain ⟨u, ps, p, d, v, b⟩ := s
  cases u
  · exact validSlot_no r A A1 n c m c1 i p d v b w _ (by rw [okSlot, if_neg (by simp)]; have := hs.ints; simp only at this; rw [this])
  · exact validSlot_yes r A A1 n c m c1 i p d v b ps w hs hm hn hn2
set_option maxRecDepth 100000 in
set_option maxHeartbeats 4000000 in
theorem ValidMemory_any (r : Ru) (A : Option Addr) (n c : Nat) (ss : List SlotR) (w : World) (hs : Sls w w.heap.size A n ss) (hn : n ≤ 9223372036854775807) (hm : ∀ j, j < n → (ss.getD j dS).ps.length ≤ 1048576) :
    Calls Try.prog 22 #[.agg #[.int .i64 r.p, .int .i64 r.s, .bool r.st, .bool r.sk, .bool r.re, .bool r.fe, .bool r.ag, .int .i64 r.ca, .int .i64 r.sl, .slice A n c]] w fun e w' => e = .returned (.bool (okMem r n ss)) ∧ Below w.heap.size w w' := by
  obtain ⟨q, hq⟩ : ∃ q, okMem r n ss = q := ⟨_, rfl⟩
  have HQ := Lib.hid hq
  clear hq
  rw [HQ.out]
  cases g1 : okRu r
  case false =>
    obtain rfl : q = false := by rw [← HQ.out]; exact okMem_r g1
    go_enter Try.func22, Try.ntmps22
    go_wp2_with (go_at_call 43; refine (ValidRules_lit r _).mono ?_; rintro e w_ ⟨rfl, rfl⟩)
    go_ret
    exact ⟨rfl, by (repeat' (first | (with_reducible exact Below.refl _ _) | (with_reducible assumption) | (with_reducible refine Below.alloc ?_ ?_ _) | (with_reducible refine Below.drew ?_) | (with_reducible refine belowDrewN ?_ _) | (with_reducible refine Below.setCell ?_ ?_ _) | (with_reducible refine Below.via (by with_reducible assumption) ?_ ?_) | (with_reducible refine Below.viaD (by with_reducible assumption) ?_ ?_) | (with_reducible exact Below.size (by with_reducible assumption)) | go_size | (with_reducible refine Nat.le_trans ?_ (Below.size (by with_reducible assumption))) | (with_reducible refine Nat.le_trans ?_ (sizeAlloc _ _)) | (with_reducible refine Nat.le_trans ?_ (sizeSet _ _ _)) | (with_reducible refine Nat.le_trans ?_ (sizeDrew _))))⟩
  case true =>
    cases g2 : inB n 1 64
    case false =>
      obtain rfl : q = false := by rw [← HQ.out]; exact okMem_n g2
      go_enter Try.func22, Try.ntmps22
      go_wp2_with (first | (go_at_call 43; refine (ValidRules_lit r _).mono ?_; rintro e w_ ⟨rfl, rfl⟩) | (go_at_call 44; refine (between_any _ _ _ _).mono ?_; rintro e w_ ⟨rfl, rfl⟩))
      go_ret
      exact ⟨rfl, by (repeat' (first | (with_reducible exact Below.refl _ _) | (with_reducible assumption) | (with_reducible refine Below.alloc ?_ ?_ _) | (with_reducible refine Below.drew ?_) | (with_reducible refine belowDrewN ?_ _) | (with_reducible refine Below.setCell ?_ ?_ _) | (with_reducible refine Below.via (by with_reducible assumption) ?_ ?_) | (with_reducible refine Below.viaD (by with_reducible assumption) ?_ ?_) | (with_reducible exact Below.size (by with_reducible assumption)) | go_size | (with_reducible refine Nat.le_trans ?_ (Below.size (by with_reducible assumption))) | (with_reducible refine Nat.le_trans ?_ (sizeAlloc _ _)) | (with_reducible refine Nat.le_trans ?_ (sizeSet _ _ _)) | (with_reducible refine Nat.le_trans ?_ (sizeDrew _))))⟩
    case true =>
      obtain ⟨n1, n2⟩ := inB_of g2
      have HA := Lib.hid (fun h => HQ.out.symm.trans (okMem_all (ss := ss) g1 g2 h))
      have HN : Hid (∀ k, k < n → okSlot r n k (ss.getD k dS) = false → q = false) := fun k hk h => HQ.out.symm.trans (okMem_at hk h)
      have HM := Lib.hid hm
      have HS := Lib.hid hs
      clear hs hm HQ
      go_enter Try.func22, Try.ntmps22
      go_wp2_with (first | (go_at_call 43; refine (ValidRules_lit r _).mono ?_; rintro e w_ ⟨rfl, rfl⟩) | (go_at_call 44; refine (between_any _ _ _ _).mono ?_; rintro e w_ ⟨rfl, rfl⟩))
      go_loopw [19] (fun i wr => ∃ k : Nat, k ≤ n ∧ i = .int .i64 k ∧ Hid (∀ j, j < k → okSlot r n j (ss.getD j dS) = true) ∧ Blk wr w.heap.size 27 #[.int .i64 r.p, .int .i64 r.s, .bool r.st, .bool r.sk, .bool r.re, .bool r.fe, .bool r.ag, .int .i64 r.ca, .int .i64 r.sl, .slice A n c] ∧ Below w.heap.size w wr) (fun i _ => n - (intOf i).toNat)
      case atStart => exact ⟨0, Nat.zero_le _, rfl, fun j hj => absurd hj (by omega), (Blk.new w 27 _).later (by (repeat' (first | (with_reducible exact Below.refl _ _) | (with_reducible assumption) | (with_reducible refine Below.alloc ?_ ?_ _) | (with_reducible refine Below.drew ?_) | (with_reducible refine belowDrewN ?_ _) | (with_reducible refine Below.setCell ?_ ?_ _) | (with_reducible refine Below.via (by with_reducible assumption) ?_ ?_) | (with_reducible refine Below.viaD (by with_reducible assumption) ?_ ?_) | (with_reducible exact Below.size (by with_reducible assumption)) | go_size | (with_reducible refine Nat.le_trans ?_ (Below.size (by with_reducible assumption))) | (with_reducible refine Nat.le_trans ?_ (sizeAlloc _ _)) | (with_reducible refine Nat.le_trans ?_ (sizeSet _ _ _)) | (with_reducible refine Nat.le_trans ?_ (sizeDrew _))))), by (repeat' (first | (with_reducible exact Below.refl _ _) | (with_reducible assumption) | (with_reducible refine Below.alloc ?_ ?_ _) | (with_reducible refine Below.drew ?_) | (with_reducible refine belowDrewN ?_ _) | (with_reducible refine Below.setCell ?_ ?_ _) | (with_reducible refine Below.via (by with_reducible assumption) ?_ ?_) | (with_reducible refine Below.viaD (by with_reducible assumption) ?_ ?_) | (with_reducible exact Below.size (by with_reducible assumption)) | go_size | (with_reducible refine Nat.le_trans ?_ (Below.size (by with_reducible assumption))) | (with_reducible refine Nat.le_trans ?_ (sizeAlloc _ _)) | (with_reducible refine Nat.le_trans ?_ (sizeSet _ _ _)) | (with_reducible refine Nat.le_trans ?_ (sizeDrew _))))⟩
      case round =>
        obtain ⟨k, hk, rfl, hpre, hblk, hbl⟩ := hrel
        by_cases hlt : k < n
        · obtain ⟨b, off, u0, l, p0, d0, v0, b0, A1, m, c1, rfl, hb', HL, hat, hsl, hm63⟩ := (HS.out.below hbl).row hlt
          obtain ⟨x0, x1, x2, x3, x4, x5⟩ := hat
          have hml : m ≤ 1048576 := by
            have h1 := hsl.ints
            have h2 := HM.out k hlt
            rw [HL.out] at h2
            simp only at h2
            omega
          have hbs := hbl.size
          have hgl := hblk.lt
          have S1 := Lib.hid (hsl.mono hbs)
          have HB := Lib.hid hblk
          have m0 := hblk.cell 0
          have m1 := hblk.cell 1
          have m2 := hblk.cell 2
          have m3 := hblk.cell 3
          have m4 := hblk.cell 4
          have m5 := hblk.cell 5
          have m6 := hblk.cell 6
          have m7 := hblk.cell 7
          have m8 := hblk.cell 8
          have m9 := hblk.cell 9
          simp only [List.getElem?_toArray, List.getElem?_cons_zero, List.getElem?_cons_succ] at m0 m1 m2 m3 m4 m5 m6 m7 m8 m9
          clear hsl hblk
          have HO : Hid (okSlot r n k (ss.getD k dS) = okSlot r n k ⟨u0, l, p0, d0, v0, b0⟩) := by unfold Hid; rw [HL.out]
          cases g3 : okSlot r n k ⟨u0, l, p0, d0, v0, b0⟩
          case false =>
            obtain rfl : q = false := HN.out k hlt (HO.out.trans g3)
            have G3 := Lib.hid g3
            go_wp2_with (go_at_call 54; refine (validSlot_any r _ A1 n c m c1 k ⟨u0, l, p0, d0, v0, b0⟩ _ (S1.out.later (by (repeat' (first | (with_reducible exact Below.refl _ _) | (with_reducible assumption) | (with_reducible refine Below.alloc ?_ ?_ _) | (with_reducible refine Below.drew ?_) | (with_reducible refine belowDrewN ?_ _) | (with_reducible refine Below.setCell ?_ ?_ _) | (with_reducible refine Below.via (by with_reducible assumption) ?_ ?_) | (with_reducible refine Below.viaD (by with_reducible assumption) ?_ ?_) | (with_reducible exact Below.size (by with_reducible assumption)) | go_size | (with_reducible refine Nat.le_trans ?_ (Below.size (by with_reducible assumption))) | (with_reducible refine Nat.le_trans ?_ (sizeAlloc _ _)) | (with_reducible refine Nat.le_trans ?_ (sizeSet _ _ _)) | (with_reducible refine Nat.le_trans ?_ (sizeDrew _)))))) hml (by omega) (by omega)).mono ?_; rintro e w1 ⟨rfl, hb1⟩; rw [G3.out])
            go_ret
            exact ⟨rfl, by (repeat' (first | (with_reducible exact Below.refl _ _) | (with_reducible assumption) | (with_reducible refine Below.alloc ?_ ?_ _) | (with_reducible refine Below.drew ?_) | (with_reducible refine belowDrewN ?_ _) | (with_reducible refine Below.setCell ?_ ?_ _) | (with_reducible refine Below.via (by with_reducible assumption) ?_ ?_) | (with_reducible refine Below.viaD (by with_reducible assumption) ?_ ?_) | (with_reducible exact Below.size (by with_reducible assumption)) | go_size | (with_reducible refine Nat.le_trans ?_ (Below.size (by with_reducible assumption))) | (with_reducible refine Nat.le_trans ?_ (sizeAlloc _ _)) | (with_reducible refine Nat.le_trans ?_ (sizeSet _ _ _)) | (with_reducible refine Nat.le_trans ?_ (sizeDrew _))))⟩
          case true =>
            have G3 := Lib.hid g3
            go_wp2_with (go_at_call 54; refine (validSlot_any r _ A1 n c m c1 k ⟨u0, l, p0, d0, v0, b0⟩ _ (S1.out.later (by (repeat' (first | (with_reducible exact Below.refl _ _) | (with_reducible assumption) | (with_reducible refine Below.alloc ?_ ?_ _) | (with_reducible refine Below.drew ?_) | (with_reducible refine belowDrewN ?_ _) | (with_reducible refine Below.setCell ?_ ?_ _) | (with_reducible refine Below.via (by with_reducible assumption) ?_ ?_) | (with_reducible refine Below.viaD (by with_reducible assumption) ?_ ?_) | (with_reducible exact Below.size (by with_reducible assumption)) | go_size | (with_reducible refine Nat.le_trans ?_ (Below.size (by with_reducible assumption))) | (with_reducible refine Nat.le_trans ?_ (sizeAlloc _ _)) | (with_reducible refine Nat.le_trans ?_ (sizeSet _ _ _)) | (with_reducible refine Nat.le_trans ?_ (sizeDrew _)))))) hml (by omega) (by omega)).mono ?_; rintro e w1 ⟨rfl, hb1⟩; rw [G3.out])
            go_roundw
            case rel =>
              refine ⟨k + 1, by omega, by go_num, fun j hj => ?_, ?_, by (repeat' (first | (with_reducible exact Below.refl _ _) | (with_reducible assumption) | (with_reducible refine Below.alloc ?_ ?_ _) | (with_reducible refine Below.drew ?_) | (with_reducible refine belowDrewN ?_ _) | (with_reducible refine Below.setCell ?_ ?_ _) | (with_reducible refine Below.via (by with_reducible assumption) ?_ ?_) | (with_reducible refine Below.viaD (by with_reducible assumption) ?_ ?_) | (with_reducible exact Below.size (by with_reducible assumption)) | go_size | (with_reducible refine Nat.le_trans ?_ (Below.size (by with_reducible assumption))) | (with_reducible refine Nat.le_trans ?_ (sizeAlloc _ _)) | (with_reducible refine Nat.le_trans ?_ (sizeSet _ _ _)) | (with_reducible refine Nat.le_trans ?_ (sizeDrew _))))⟩
              · rcases Nat.lt_or_ge j k with h | h
                · exact hpre.out j h
                · obtain rfl : j = k := by omega
                  exact HO.out.trans G3.out
              · exact HB.out.later (by (repeat' (first | (with_reducible exact Below.refl _ _) | (with_reducible assumption) | (with_reducible refine Below.alloc ?_ ?_ _) | (with_reducible refine Below.drew ?_) | (with_reducible refine belowDrewN ?_ _) | (with_reducible refine Below.setCell ?_ ?_ _) | (with_reducible refine Below.via (by with_reducible assumption) ?_ ?_) | (with_reducible refine Below.viaD (by with_reducible assumption) ?_ ?_) | (with_reducible exact Below.size (by with_reducible assumption)) | go_size | (with_reducible refine Nat.le_trans ?_ (Below.size (by with_reducible assumption))) | (with_reducible refine Nat.le_trans ?_ (sizeAlloc _ _)) | (with_reducible refine Nat.le_trans ?_ (sizeSet _ _ _)) | (with_reducible refine Nat.le_trans ?_ (sizeDrew _)))))
            case measure => first | (simp [intOf]; done) | (simp [intOf]; omega)
        · obtain rfl : k = n := by omega
          obtain rfl : q = true := HA.out hpre.out
          go_wp2
          go_ret
          exact ⟨rfl, by (repeat' (first | (with_reducible exact Below.refl _ _) | (with_reducible assumption) | (with_reducible refine Below.alloc ?_ ?_ _) | (with_reducible refine Below.drew ?_) | (with_reducible refine belowDrewN ?_ _) | (with_reducible refine Below.setCell ?_ ?_ _) | (with_reducible refine Below.via (by with_reducible assumption) ?_ ?_) | (with_reducible refine Below.viaD (by with_reducible assumption) ?_ ?_) | (with_reducible exact Below.size (by with_reducible assumption)) | go_size | (with_reducible refine Nat.le_trans ?_ (Below.size (by with_reducible assumption))) | (with_reducible refine Nat.le_trans ?_ (sizeAlloc _ _)) | (with_reducible refine Nat.le_trans ?_ (sizeSet _ _ _)) | (with_reducible refine Nat.le_trans ?_ (sizeDrew _))))⟩
end Go.Proofs.Ytpcenpedbdenmaa
