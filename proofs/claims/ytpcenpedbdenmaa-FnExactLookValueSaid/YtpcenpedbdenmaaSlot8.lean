/- Valid memories, by the reference; Conditions: lists below 2^20. -/
import Derived.Test.YtpcenpedbdenmaaSlot7
import Derived.Test.YtpcenpedbdenmaaSlot6
import Derived.Test.YtpcenpedbdenmaaMemX
import Derived.Test.YtpcenpedbdenmaaHeld
namespace Go.Proofs.Ytpcenpedbdenmaa
set_option linter.unusedSimpArgs false
set_option linter.unusedVariables false
open Go.RowKit Go.WideShapes Go.ChangeShapes Go.Deep

set_option maxRecDepth 100000 in
set_option maxHeartbeats 4000000 in
theorem l16Ok_any (r : Ru) (b n c : Nat) (A : Option Addr) (ss : List SlotR) (w : World) (hr : RuAt w b 0 r) (h9 : w.cell? ⟨b, 9, none⟩ = some (.slice A n c)) (hs : Sls w w.heap.size A n ss) (hn : n ≤ 9223372036854775807) (hm : ∀ j, j < n → (ss.getD j dS).ps.length ≤ 1048576) :
    Calls Try.prog 53 #[.pointer (some ⟨b, 0, none⟩)] w fun e w' => e = .returned (.bool (okMem r n ss)) ∧ Below w.heap.size w w' := by
  obtain ⟨q, hq⟩ : ∃ q, okMem r n ss = q := ⟨_, rfl⟩
  have HQ := Lib.hid hq
  clear hq
  rw [HQ.out]
  have HRU := Lib.hid hr
  clear hr
  have hbl := cell_lt h9
  cases g1 : okRu r
  case false =>
    have QR := Lib.hid g1
    obtain rfl : q = false := by rw [← HQ.out]; exact okMem_r g1
    go_enter Try.func53, Try.ntmps53
    go_wp2_with (go_at_call 41; refine (l02Ok_lit QR.out b 0 _ HRU.out).mono ?_; rintro e w_ ⟨rfl, rfl⟩)
    go_ret
    exact ⟨rfl, by (repeat' (first | (with_reducible exact Below.refl _ _) | (with_reducible assumption) | (with_reducible refine Below.alloc ?_ ?_ _) | (with_reducible refine Below.drew ?_) | (with_reducible refine belowDrewN ?_ _) | (with_reducible refine Below.setCell ?_ ?_ _) | (with_reducible refine Below.via (by with_reducible assumption) ?_ ?_) | (with_reducible refine Below.viaD (by with_reducible assumption) ?_ ?_) | (with_reducible exact Below.size (by with_reducible assumption)) | go_size | (with_reducible refine Nat.le_trans ?_ (Below.size (by with_reducible assumption))) | (with_reducible refine Nat.le_trans ?_ (sizeAlloc _ _)) | (with_reducible refine Nat.le_trans ?_ (sizeSet _ _ _)) | (with_reducible refine Nat.le_trans ?_ (sizeDrew _))))⟩
  case true =>
    have QR := Lib.hid g1
    cases g2 : inB n 1 64
    case false =>
      obtain rfl : q = false := by rw [← HQ.out]; exact okMem_n g2
      go_enter Try.func53, Try.ntmps53
      go_wp2_with (first | (go_at_call 41; refine (l02Ok_lit QR.out b 0 _ HRU.out).mono ?_; rintro e w_ ⟨rfl, rfl⟩) | (go_at_call 42; refine (l00In_any _ _ _ _).mono ?_; rintro e w_ ⟨rfl, rfl⟩))
      go_ret
      exact ⟨rfl, by (repeat' (first | (with_reducible exact Below.refl _ _) | (with_reducible assumption) | (with_reducible refine Below.alloc ?_ ?_ _) | (with_reducible refine Below.drew ?_) | (with_reducible refine belowDrewN ?_ _) | (with_reducible refine Below.setCell ?_ ?_ _) | (with_reducible refine Below.via (by with_reducible assumption) ?_ ?_) | (with_reducible refine Below.viaD (by with_reducible assumption) ?_ ?_) | (with_reducible exact Below.size (by with_reducible assumption)) | go_size | (with_reducible refine Nat.le_trans ?_ (Below.size (by with_reducible assumption))) | (with_reducible refine Nat.le_trans ?_ (sizeAlloc _ _)) | (with_reducible refine Nat.le_trans ?_ (sizeSet _ _ _)) | (with_reducible refine Nat.le_trans ?_ (sizeDrew _))))⟩
    case true =>
      obtain ⟨n1, n2⟩ := inB_of g2
      have HA := Lib.hid (fun h => HQ.out.symm.trans (okMem_all (ss := ss) g1 g2 h))
      have HN : Hid (∀ k, k < n → okSlot r n k (ss.getD k dS) = false → q = false) := fun k hk h => HQ.out.symm.trans (okMem_at hk h)
      have HM := Lib.hid hm
      have HS := Lib.hid hs
      clear hs hm HQ
      go_enter Try.func53, Try.ntmps53
      go_wp2_with (first | (go_at_call 41; refine (l02Ok_lit QR.out b 0 _ HRU.out).mono ?_; rintro e w_ ⟨rfl, rfl⟩) | (go_at_call 42; refine (l00In_any _ _ _ _).mono ?_; rintro e w_ ⟨rfl, rfl⟩))
      go_loopw [3] (fun i wr => ∃ k : Nat, k ≤ n ∧ i = .int .i64 k ∧ Hid (∀ j, j < k → okSlot r n j (ss.getD j dS) = true) ∧ Below w.heap.size w wr) (fun i _ => n - (intOf i).toNat)
      case atStart => exact ⟨0, Nat.zero_le _, rfl, fun j hj => absurd hj (by omega), by (repeat' (first | (with_reducible exact Below.refl _ _) | (with_reducible assumption) | (with_reducible refine Below.alloc ?_ ?_ _) | (with_reducible refine Below.drew ?_) | (with_reducible refine belowDrewN ?_ _) | (with_reducible refine Below.setCell ?_ ?_ _) | (with_reducible refine Below.via (by with_reducible assumption) ?_ ?_) | (with_reducible refine Below.viaD (by with_reducible assumption) ?_ ?_) | (with_reducible exact Below.size (by with_reducible assumption)) | go_size | (with_reducible refine Nat.le_trans ?_ (Below.size (by with_reducible assumption))) | (with_reducible refine Nat.le_trans ?_ (sizeAlloc _ _)) | (with_reducible refine Nat.le_trans ?_ (sizeSet _ _ _)) | (with_reducible refine Nat.le_trans ?_ (sizeDrew _))))⟩
      case round =>
        obtain ⟨k, hk, rfl, hpre, hbw⟩ := hrel
        have h9w : wr.cell? ⟨b, 9, none⟩ = some (.slice A n c) := (hbw.cell (p := ⟨b, 9, none⟩) hbl).trans h9
        by_cases hlt : k < n
        · cases g3 : okSlot r n k (ss.getD k dS)
          case false =>
            obtain rfl : q = false := HN.out k hlt g3
            have G3 := Lib.hid g3
            clear g3
            go_wp2_with (go_at_call 78; refine (l16Slot_any r b n c k A ss _ (HRU.out.later hbw) h9w (HS.out.later hbw) hlt (HM.out k hlt) (by omega) (by omega)).mono ?_; rintro e w1 ⟨rfl, hb1⟩; rw [G3.out])
            go_ret
            exact ⟨rfl, by (repeat' (first | (with_reducible exact Below.refl _ _) | (with_reducible assumption) | (with_reducible refine Below.alloc ?_ ?_ _) | (with_reducible refine Below.drew ?_) | (with_reducible refine belowDrewN ?_ _) | (with_reducible refine Below.setCell ?_ ?_ _) | (with_reducible refine Below.via (by with_reducible assumption) ?_ ?_) | (with_reducible refine Below.viaD (by with_reducible assumption) ?_ ?_) | (with_reducible exact Below.size (by with_reducible assumption)) | go_size | (with_reducible refine Nat.le_trans ?_ (Below.size (by with_reducible assumption))) | (with_reducible refine Nat.le_trans ?_ (sizeAlloc _ _)) | (with_reducible refine Nat.le_trans ?_ (sizeSet _ _ _)) | (with_reducible refine Nat.le_trans ?_ (sizeDrew _))))⟩
          case true =>
            have G3 := Lib.hid g3
            clear g3
            go_wp2_with (go_at_call 78; refine (l16Slot_any r b n c k A ss _ (HRU.out.later hbw) h9w (HS.out.later hbw) hlt (HM.out k hlt) (by omega) (by omega)).mono ?_; rintro e w1 ⟨rfl, hb1⟩; rw [G3.out])
            go_roundw
            case rel =>
              refine ⟨k + 1, by omega, by go_num, fun j hj => ?_, by (repeat' (first | (with_reducible exact Below.refl _ _) | (with_reducible assumption) | (with_reducible refine Below.alloc ?_ ?_ _) | (with_reducible refine Below.drew ?_) | (with_reducible refine belowDrewN ?_ _) | (with_reducible refine Below.setCell ?_ ?_ _) | (with_reducible refine Below.via (by with_reducible assumption) ?_ ?_) | (with_reducible refine Below.viaD (by with_reducible assumption) ?_ ?_) | (with_reducible exact Below.size (by with_reducible assumption)) | go_size | (with_reducible refine Nat.le_trans ?_ (Below.size (by with_reducible assumption))) | (with_reducible refine Nat.le_trans ?_ (sizeAlloc _ _)) | (with_reducible refine Nat.le_trans ?_ (sizeSet _ _ _)) | (with_reducible refine Nat.le_trans ?_ (sizeDrew _))))⟩
              rcases Nat.lt_or_ge j k with h | h
              · exact hpre.out j h
              · obtain rfl : j = k := by omega
                exact G3.out
            case measure => first | (simp [intOf]; done) | (simp [intOf]; omega)
        · obtain rfl : k = n := by omega
          obtain rfl : q = true := HA.out hpre.out
          go_wp2
          go_ret
          exact ⟨rfl, by (repeat' (first | (with_reducible exact Below.refl _ _) | (with_reducible assumption) | (with_reducible refine Below.alloc ?_ ?_ _) | (with_reducible refine Below.drew ?_) | (with_reducible refine belowDrewN ?_ _) | (with_reducible refine Below.setCell ?_ ?_ _) | (with_reducible refine Below.via (by with_reducible assumption) ?_ ?_) | (with_reducible refine Below.viaD (by with_reducible assumption) ?_ ?_) | (with_reducible exact Below.size (by with_reducible assumption)) | go_size | (with_reducible refine Nat.le_trans ?_ (Below.size (by with_reducible assumption))) | (with_reducible refine Nat.le_trans ?_ (sizeAlloc _ _)) | (with_reducible refine Nat.le_trans ?_ (sizeSet _ _ _)) | (with_reducible refine Nat.le_trans ?_ (sizeDrew _))))⟩
theorem sValidMemory_any (r : Ru) (A : Option Addr) (n c : Nat) (ss : List SlotR) (w : World) (hs : Sls w w.heap.size A n ss) (hn : n ≤ 9223372036854775807) (hm : ∀ j, j < n → (ss.getD j dS).ps.length ≤ 1048576) :
    Calls Try.prog 21 #[.agg #[.int .i64 r.p, .int .i64 r.s, .bool r.st, .bool r.sk, .bool r.re, .bool r.fe, .bool r.ag, .int .i64 r.ca, .int .i64 r.sl, .slice A n c]] w fun e w' => e = .returned (.bool (okMem r n ss)) ∧ Below w.heap.size w w' := by
  go_enter Try.func21, Try.ntmps21
  go_wp2_with fail
  refine (l16Ok_any r _ n c A ss _ (RuAt.new w 27 r [.slice A n c]) ((Blk.new w 27 #[.int .i64 r.p, .int .i64 r.s, .bool r.st, .bool r.sk, .bool r.re, .bool r.fe, .bool r.ag, .int .i64 r.ca, .int .i64 r.sl, .slice A n c]).cell 9) (hs.boxed _) hn hm).mono ?_
  rintro e w1 ⟨rfl, hb1⟩
  go_wp2_with fail
  go_ret
  exact ⟨rfl, by (repeat' (first | (with_reducible exact Below.refl _ _) | (with_reducible assumption) | (with_reducible refine Below.alloc ?_ ?_ _) | (with_reducible refine Below.drew ?_) | (with_reducible refine belowDrewN ?_ _) | (with_reducible refine Below.setCell ?_ ?_ _) | (with_reducible refine Below.via (by with_reducible assumption) ?_ ?_) | (with_reducible refine Below.viaD (by with_reducible assumption) ?_ ?_) | (with_reducible exact Below.size (by with_reducible assumption)) | go_size | (with_reducible refine Nat.le_trans ?_ (Below.size (by with_reducible assumption))) | (with_reducible refine Nat.le_trans ?_ (sizeAlloc _ _)) | (with_reducible refine Nat.le_trans ?_ (sizeSet _ _ _)) | (with_reducible refine Nat.le_trans ?_ (sizeDrew _))))⟩
def fnValidMemory_0 (d : MemoryD) : Bool := okMem d.r d.ss.length d.ss
theorem ValidMemory_x (cs : List Value) (d : MemoryD) (w : World) (h : XMemory w cs d) (hb : szMemory d ≤ 1048576) : Calls Try.prog 22 #[.agg cs.toArray] w fun e w' => e = .returned (.bool (fnValidMemory_0 d)) ∧ Below w.heap.size w w' := by
  obtain ⟨A, n, c, rfl, s, l⟩ := h
  obtain rfl : d.ss.length = n := s.len
  exact ValidMemory_any d.r A d.ss.length c d.ss w s l (slot_len hb)
theorem sValidMemory_x (cs : List Value) (d : MemoryD) (w : World) (h : XMemory w cs d) (hb : szMemory d ≤ 1048576) : Calls Try.prog 21 #[.agg cs.toArray] w fun e w' => e = .returned (.bool (fnValidMemory_0 d)) ∧ Below w.heap.size w w' := by
  obtain ⟨A, n, c, rfl, s, l⟩ := h
  obtain rfl : d.ss.length = n := s.len
  exact sValidMemory_any d.r A d.ss.length c d.ss w s l (slot_len hb)
end Go.Proofs.Ytpcenpedbdenmaa
