/- The place of a position in a memory, by both functions. Conditions: lists below 2^20. -/
import Derived.Test.YtpcenpedbdenmaaSlot8
import Derived.Test.YtpcenpedbdenmaaKeeps
namespace Go.Proofs.Ytpcenpedbdenmaa
set_option linter.unusedSimpArgs false
set_option linter.unusedVariables false
open Go.RowKit Go.WideShapes Go.ChangeShapes Go.Deep

def memPos (d : MemoryD) (d' : PositionD) : Bool := fnValidMemory_0 d && okPos d.r d'
def fnSlotOf_0 (d : MemoryD) (d' : PositionD) : Int := if memPos d d' then placeR d'.pits d'.player d.ss.length else 0
def fnSlotOf_1 (d : MemoryD) (d' : PositionD) : Int := if memPos d d' then 0 else 1
theorem memPos_parts {d : MemoryD} {d' : PositionD} (h : memPos d d' = true) : 1 ≤ d.ss.length ∧ d.ss.length ≤ 64 ∧ okL d'.pits = true ∧ 0 ≤ d'.player ∧ d'.player ≤ 1 := by
  rw [memPos, Bool.and_eq_true] at h
  have h1 := okMem_parts h.1
  have h2 := okPos_parts h.2
  exact ⟨h1.2.1, h1.2.2, h2.1, h2.2.1, h2.2.2⟩
theorem slotOf_no {d : MemoryD} {d' : PositionD} (h : memPos d d' = false) : fnSlotOf_0 d d' = 0 ∧ fnSlotOf_1 d d' = 1 := by
  rw [fnSlotOf_0, fnSlotOf_1, h]; exact ⟨rfl, rfl⟩
theorem slotOf_yes {d : MemoryD} {d' : PositionD} (h : memPos d d' = true) : fnSlotOf_0 d d' = placeR d'.pits d'.player d.ss.length ∧ fnSlotOf_1 d d' = 0 := by
  rw [fnSlotOf_0, fnSlotOf_1, h]; exact ⟨rfl, rfl⟩
set_option maxRecDepth 100000 in
set_option maxHeartbeats 4000000 in
theorem areRemembered_x (cs : List Value) (d : MemoryD) (cs' : List Value) (d' : PositionD) (w : World) (h : XMemory w cs d) (h' : XPosition w cs' d') (hb : szMemory d ≤ 1048576) (hb' : szPosition d' ≤ 1048576) : Calls Try.prog 59 #[.agg cs.toArray, .agg cs'.toArray] w fun e w' => e = .returned (.bool (memPos d d')) ∧ Below w.heap.size w w' := by
  have HX := Lib.hid h
  have HP := Lib.hid h'
  obtain ⟨A, n, c, rfl, hs, l⟩ := h
  obtain ⟨A1, n1, c1, A2, n2, c2, rfl, s1, l1, s2, l2⟩ := h'
  clear hs l s1 l1 s2 l2
  obtain ⟨q1, hq1⟩ : ∃ q, fnValidMemory_0 d = q := ⟨_, rfl⟩
  obtain ⟨q2, hq2⟩ : ∃ q, okPos d.r d' = q := ⟨_, rfl⟩
  have hE : memPos d d' = (q1 && q2) := by rw [memPos, hq1, hq2]
  rw [hE]
  have Q1 := Lib.hid hq1
  have Q2 := Lib.hid hq2
  clear hE hq1 hq2
  cases q1 <;> cases q2
  all_goals
    go_enter Try.func59, Try.ntmps59
    go_wp2_with (first | (go_at_call 22; (with_reducible refine Calls.mono (ValidMemory_x [.int .i64 d.r.p, .int .i64 d.r.s, .bool d.r.st, .bool d.r.sk, .bool d.r.re, .bool d.r.fe, .bool d.r.ag, .int .i64 d.r.ca, .int .i64 d.r.sl, .slice A n c] d _ ?_ hb) ?_); (exact HX.out.later (by (repeat' (first | (with_reducible exact Below.refl _ _) | (with_reducible assumption) | (with_reducible refine Below.alloc ?_ ?_ _) | (with_reducible refine Below.drew ?_) | (with_reducible refine belowDrewN ?_ _) | (with_reducible refine Below.setCell ?_ ?_ _) | (with_reducible refine Below.via (by with_reducible assumption) ?_ ?_) | (with_reducible refine Below.viaD (by with_reducible assumption) ?_ ?_) | (with_reducible exact Below.size (by with_reducible assumption)) | go_size | (with_reducible refine Nat.le_trans ?_ (Below.size (by with_reducible assumption))) | (with_reducible refine Nat.le_trans ?_ (sizeAlloc _ _)) | (with_reducible refine Nat.le_trans ?_ (sizeSet _ _ _)) | (with_reducible refine Nat.le_trans ?_ (sizeDrew _)))))); rw [Q1.out]; rintro e w1 ⟨rfl, hb1⟩; obtain ⟨hc1, hf1, hl1, hz1⟩ := bfacts hb1) | (go_at_call 79; (with_reducible refine Calls.mono (ValidPosition_any d.r [.slice A1 n1 c1, .slice A2 n2 c2, .int .i64 d'.player] d' _ ?_ hb') ?_); (exact HP.out.later (by (repeat' (first | (with_reducible exact Below.refl _ _) | (with_reducible assumption) | (with_reducible refine Below.alloc ?_ ?_ _) | (with_reducible refine Below.drew ?_) | (with_reducible refine belowDrewN ?_ _) | (with_reducible refine Below.setCell ?_ ?_ _) | (with_reducible refine Below.via (by with_reducible assumption) ?_ ?_) | (with_reducible refine Below.viaD (by with_reducible assumption) ?_ ?_) | (with_reducible exact Below.size (by with_reducible assumption)) | go_size | (with_reducible refine Nat.le_trans ?_ (Below.size (by with_reducible assumption))) | (with_reducible refine Nat.le_trans ?_ (sizeAlloc _ _)) | (with_reducible refine Nat.le_trans ?_ (sizeSet _ _ _)) | (with_reducible refine Nat.le_trans ?_ (sizeDrew _)))))); rw [Q2.out]; rintro e w2 ⟨rfl, hb2⟩))
    go_ret
    exact ⟨rfl, by (repeat' (first | (with_reducible exact Below.refl _ _) | (with_reducible assumption) | (with_reducible refine Below.alloc ?_ ?_ _) | (with_reducible refine Below.drew ?_) | (with_reducible refine belowDrewN ?_ _) | (with_reducible refine Below.setCell ?_ ?_ _) | (with_reducible refine Below.via (by with_reducible assumption) ?_ ?_) | (with_reducible refine Below.viaD (by with_reducible assumption) ?_ ?_) | (with_reducible exact Below.size (by with_reducible assumption)) | go_size | (with_reducible refine Nat.le_trans ?_ (Below.size (by with_reducible assumption))) | (with_reducible refine Nat.le_trans ?_ (sizeAlloc _ _)) | (with_reducible refine Nat.le_trans ?_ (sizeSet _ _ _)) | (with_reducible refine Nat.le_trans ?_ (sizeDrew _))))⟩
set_option maxRecDepth 100000 in
set_option maxHeartbeats 4000000 in
theorem SlotOf_x (cs : List Value) (d : MemoryD) (cs' : List Value) (d' : PositionD) (w : World) (h : XMemory w cs d) (h' : XPosition w cs' d') (hb : szMemory d ≤ 1048576) (hb' : szPosition d' ≤ 1048576) : Calls Try.prog 28 #[.agg cs.toArray, .agg cs'.toArray] w fun e w' => e = .returned (.tuple #[.int .i64 (fnSlotOf_0 d d'), .int .i64 (fnSlotOf_1 d d')]) ∧ Below w.heap.size w w' := by
  have HX := Lib.hid h
  have HP := Lib.hid h'
  obtain ⟨A, n, c, rfl, hs, l⟩ := h
  obtain ⟨A1, n1, c1, A2, n2, c2, rfl, s1, l1, s2, l2⟩ := h'
  have HL := Lib.hid hs.len
  have hp1 : n1 ≤ 1048576 := by have := s1.ints; unfold szPosition at hb'; omega
  have S1 := Lib.hid s1
  clear hs l s1 l1 s2 l2
  cases g : memPos d d'
  case false =>
    obtain ⟨e0, e1⟩ := slotOf_no g
    rw [e0, e1]
    have G := Lib.hid g
    clear g e0 e1
    go_enter Try.func28, Try.ntmps28
    go_wp2_with (go_at_call 59; (with_reducible refine Calls.mono (areRemembered_x [.int .i64 d.r.p, .int .i64 d.r.s, .bool d.r.st, .bool d.r.sk, .bool d.r.re, .bool d.r.fe, .bool d.r.ag, .int .i64 d.r.ca, .int .i64 d.r.sl, .slice A n c] d [.slice A1 n1 c1, .slice A2 n2 c2, .int .i64 d'.player] d' _ ?_ ?_ hb hb') ?_); (exact HX.out.later (by (repeat' (first | (with_reducible exact Below.refl _ _) | (with_reducible assumption) | (with_reducible refine Below.alloc ?_ ?_ _) | (with_reducible refine Below.drew ?_) | (with_reducible refine belowDrewN ?_ _) | (with_reducible refine Below.setCell ?_ ?_ _) | (with_reducible refine Below.via (by with_reducible assumption) ?_ ?_) | (with_reducible refine Below.viaD (by with_reducible assumption) ?_ ?_) | (with_reducible exact Below.size (by with_reducible assumption)) | go_size | (with_reducible refine Nat.le_trans ?_ (Below.size (by with_reducible assumption))) | (with_reducible refine Nat.le_trans ?_ (sizeAlloc _ _)) | (with_reducible refine Nat.le_trans ?_ (sizeSet _ _ _)) | (with_reducible refine Nat.le_trans ?_ (sizeDrew _)))))); (exact HP.out.later (by (repeat' (first | (with_reducible exact Below.refl _ _) | (with_reducible assumption) | (with_reducible refine Below.alloc ?_ ?_ _) | (with_reducible refine Below.drew ?_) | (with_reducible refine belowDrewN ?_ _) | (with_reducible refine Below.setCell ?_ ?_ _) | (with_reducible refine Below.via (by with_reducible assumption) ?_ ?_) | (with_reducible refine Below.viaD (by with_reducible assumption) ?_ ?_) | (with_reducible exact Below.size (by with_reducible assumption)) | go_size | (with_reducible refine Nat.le_trans ?_ (Below.size (by with_reducible assumption))) | (with_reducible refine Nat.le_trans ?_ (sizeAlloc _ _)) | (with_reducible refine Nat.le_trans ?_ (sizeSet _ _ _)) | (with_reducible refine Nat.le_trans ?_ (sizeDrew _)))))); rw [G.out]; rintro e w1 ⟨rfl, hb1⟩)
    go_ret2
    exact ⟨rfl, by (repeat' (first | (with_reducible exact Below.refl _ _) | (with_reducible assumption) | (with_reducible refine Below.alloc ?_ ?_ _) | (with_reducible refine Below.drew ?_) | (with_reducible refine belowDrewN ?_ _) | (with_reducible refine Below.setCell ?_ ?_ _) | (with_reducible refine Below.via (by with_reducible assumption) ?_ ?_) | (with_reducible refine Below.viaD (by with_reducible assumption) ?_ ?_) | (with_reducible exact Below.size (by with_reducible assumption)) | go_size | (with_reducible refine Nat.le_trans ?_ (Below.size (by with_reducible assumption))) | (with_reducible refine Nat.le_trans ?_ (sizeAlloc _ _)) | (with_reducible refine Nat.le_trans ?_ (sizeSet _ _ _)) | (with_reducible refine Nat.le_trans ?_ (sizeDrew _))))⟩
  case true =>
    obtain ⟨e0, e1⟩ := slotOf_yes g
    obtain ⟨p1, p2, p3, p4, p5⟩ := memPos_parts g
    have PL : Hid (∀ W, Below w.heap.size w W → Calls Try.prog 60 #[.agg #[.int .i64 d.r.p, .int .i64 d.r.s, .bool d.r.st, .bool d.r.sk, .bool d.r.re, .bool d.r.fe, .bool d.r.ag, .int .i64 d.r.ca, .int .i64 d.r.sl, .slice A n c], .agg #[.slice A1 n1 c1, .slice A2 n2 c2, .int .i64 d'.player]] W fun e w' => e = .returned (.int .i64 (fnSlotOf_0 d d')) ∧ Below W.heap.size W w') := fun W hW => by
      rw [e0, HL.out]
      rw [HL.out] at p1 p2
      exact place_any d.r A A1 A2 n c n1 c1 n2 c2 d'.player d'.pits W (S1.out.later hW) p3 p4 p5 p1 p2 hp1
    rw [e1]
    obtain ⟨z, hz⟩ : ∃ z, fnSlotOf_0 d d' = z := ⟨_, rfl⟩
    have HZ := Lib.hid hz
    have G := Lib.hid g
    rw [hz]
    clear g e0 e1 p3 hz
    go_enter Try.func28, Try.ntmps28
    go_wp2_with (first | (go_at_call 59; (with_reducible refine Calls.mono (areRemembered_x [.int .i64 d.r.p, .int .i64 d.r.s, .bool d.r.st, .bool d.r.sk, .bool d.r.re, .bool d.r.fe, .bool d.r.ag, .int .i64 d.r.ca, .int .i64 d.r.sl, .slice A n c] d [.slice A1 n1 c1, .slice A2 n2 c2, .int .i64 d'.player] d' _ ?_ ?_ hb hb') ?_); (exact HX.out.later (by (repeat' (first | (with_reducible exact Below.refl _ _) | (with_reducible assumption) | (with_reducible refine Below.alloc ?_ ?_ _) | (with_reducible refine Below.drew ?_) | (with_reducible refine belowDrewN ?_ _) | (with_reducible refine Below.setCell ?_ ?_ _) | (with_reducible refine Below.via (by with_reducible assumption) ?_ ?_) | (with_reducible refine Below.viaD (by with_reducible assumption) ?_ ?_) | (with_reducible exact Below.size (by with_reducible assumption)) | go_size | (with_reducible refine Nat.le_trans ?_ (Below.size (by with_reducible assumption))) | (with_reducible refine Nat.le_trans ?_ (sizeAlloc _ _)) | (with_reducible refine Nat.le_trans ?_ (sizeSet _ _ _)) | (with_reducible refine Nat.le_trans ?_ (sizeDrew _)))))); (exact HP.out.later (by (repeat' (first | (with_reducible exact Below.refl _ _) | (with_reducible assumption) | (with_reducible refine Below.alloc ?_ ?_ _) | (with_reducible refine Below.drew ?_) | (with_reducible refine belowDrewN ?_ _) | (with_reducible refine Below.setCell ?_ ?_ _) | (with_reducible refine Below.via (by with_reducible assumption) ?_ ?_) | (with_reducible refine Below.viaD (by with_reducible assumption) ?_ ?_) | (with_reducible exact Below.size (by with_reducible assumption)) | go_size | (with_reducible refine Nat.le_trans ?_ (Below.size (by with_reducible assumption))) | (with_reducible refine Nat.le_trans ?_ (sizeAlloc _ _)) | (with_reducible refine Nat.le_trans ?_ (sizeSet _ _ _)) | (with_reducible refine Nat.le_trans ?_ (sizeDrew _)))))); rw [G.out]; rintro e w1 ⟨rfl, hb1⟩; obtain ⟨hc1, hf1, hl1, hz1⟩ := bfacts hb1) | (go_at_call 60; (with_reducible refine Calls.mono (PL.out _ ?_) ?_); (exact by (repeat' (first | (with_reducible exact Below.refl _ _) | (with_reducible assumption) | (with_reducible refine Below.alloc ?_ ?_ _) | (with_reducible refine Below.drew ?_) | (with_reducible refine belowDrewN ?_ _) | (with_reducible refine Below.setCell ?_ ?_ _) | (with_reducible refine Below.via (by with_reducible assumption) ?_ ?_) | (with_reducible refine Below.viaD (by with_reducible assumption) ?_ ?_) | (with_reducible exact Below.size (by with_reducible assumption)) | go_size | (with_reducible refine Nat.le_trans ?_ (Below.size (by with_reducible assumption))) | (with_reducible refine Nat.le_trans ?_ (sizeAlloc _ _)) | (with_reducible refine Nat.le_trans ?_ (sizeSet _ _ _)) | (with_reducible refine Nat.le_trans ?_ (sizeDrew _))))); rw [HZ.out]; rintro e w2 ⟨rfl, hb2⟩))
    go_ret2
    exact ⟨rfl, by (repeat' (first | (with_reducible exact Below.refl _ _) | (with_reducible assumption) | (with_reducible refine Below.alloc ?_ ?_ _) | (with_reducible refine Below.drew ?_) | (with_reducible refine belowDrewN ?_ _) | (with_reducible refine Below.setCell ?_ ?_ _) | (with_reducible refine Below.via (by with_reducible assumption) ?_ ?_) | (with_reducible refine Below.viaD (by with_reducible assumption) ?_ ?_) | (with_reducible exact Below.size (by with_reducible assumption)) | go_size | (with_reducible refine Nat.le_trans ?_ (Below.size (by with_reducible assumption))) | (with_reducible refine Nat.le_trans ?_ (sizeAlloc _ _)) | (with_reducible refine Nat.le_trans ?_ (sizeSet _ _ _)) | (with_reducible refine Nat.le_trans ?_ (sizeDrew _))))⟩
set_option maxRecDepth 100000 in
set_option maxHeartbeats 4000000 in
theorem l16Code_any (d : MemoryD) (d' : PositionD) (b b2 n c n1 c1 n2 c2 : Nat) (A A1 A2 : Option Addr) (w : World) (hr : RuAt w b 0 d.r) (h9 : w.cell? ⟨b, 9, none⟩ = some (.slice A n c)) (hs : Sls w w.heap.size A n d.ss) (hn : n ≤ 9223372036854775807) (hm : ∀ j, j < n → (d.ss.getD j dS).ps.length ≤ 1048576) (hp : PosAt w b2 0 A1 n1 c1 A2 n2 c2 d') (hb' : szPosition d' ≤ 1048576) :
    Calls Try.prog 56 #[.pointer (some ⟨b, 0, none⟩), .pointer (some ⟨b2, 0, none⟩)] w fun e w' => e = .returned (.int .i64 (fnSlotOf_1 d d')) ∧ Below w.heap.size w w' := by
  have HRU := Lib.hid hr
  have HS := Lib.hid hs
  have HP := Lib.hid hp
  have HM := Lib.hid hm
  have H9 := Lib.hid h9
  have hbl := cell_lt h9
  have hbl2 := cell_lt hp.c0
  obtain ⟨q1, hq1⟩ : ∃ q, okMem d.r n d.ss = q := ⟨_, rfl⟩
  obtain ⟨q2, hq2⟩ : ∃ q, okPos d.r d' = q := ⟨_, rfl⟩
  have hE : fnSlotOf_1 d d' = if (q1 && q2) = true then 0 else 1 := by rw [fnSlotOf_1, memPos, fnValidMemory_0, hs.len, hq1, hq2]
  rw [hE]
  have Q1 := Lib.hid hq1
  have Q2 := Lib.hid hq2
  clear hE hq1 hq2 hr hs hp hm h9
  cases q1 <;> cases q2
  all_goals
    go_enter Try.func56, Try.ntmps56
    go_wp2_with (first | (go_at_call 53; (with_reducible refine Calls.mono (l16Ok_any d.r b n c A d.ss _ HRU.out H9.out HS.out hn HM.out) ?_); rw [Q1.out]; rintro e w1 ⟨rfl, hb1⟩) | (go_at_call 82; (with_reducible refine Calls.mono (l04Ok_quiet d.r b 0 b2 0 A1 A2 n1 c1 n2 c2 d' _ ?_ ?_ hb') ?_); (exact HRU.out.later hb1); (exact HP.out.later hb1); rw [Q2.out]; rintro e w2 ⟨rfl, m2, rfl⟩))
    go_ret
    exact ⟨rfl, by (repeat' (first | (with_reducible exact Below.refl _ _) | (with_reducible assumption) | (with_reducible refine Below.alloc ?_ ?_ _) | (with_reducible refine Below.drew ?_) | (with_reducible refine belowDrewN ?_ _) | (with_reducible refine Below.setCell ?_ ?_ _) | (with_reducible refine Below.via (by with_reducible assumption) ?_ ?_) | (with_reducible refine Below.viaD (by with_reducible assumption) ?_ ?_) | (with_reducible exact Below.size (by with_reducible assumption)) | go_size | (with_reducible refine Nat.le_trans ?_ (Below.size (by with_reducible assumption))) | (with_reducible refine Nat.le_trans ?_ (sizeAlloc _ _)) | (with_reducible refine Nat.le_trans ?_ (sizeSet _ _ _)) | (with_reducible refine Nat.le_trans ?_ (sizeDrew _))))⟩
set_option maxRecDepth 100000 in
set_option maxHeartbeats 4000000 in
theorem l16Place_any (b b2 n c n1 c1 n2 c2 : Nat) (A A1 A2 : Option Addr) (d' : PositionD) (w : World) (h9 : w.cell? ⟨b, 9, none⟩ = some (.slice A n c)) (hp : PosAt w b2 0 A1 n1 c1 A2 n2 c2 d') (p1 : 1 ≤ n) (p2 : n ≤ 64) (p3 : okL d'.pits = true) (p4 : 0 ≤ d'.player) (p5 : d'.player ≤ 1) (hb' : szPosition d' ≤ 1048576) (z : Int) (hz : placeR d'.pits d'.player n = z) :
    Calls Try.prog 57 #[.pointer (some ⟨b, 0, none⟩), .pointer (some ⟨b2, 0, none⟩)] w fun e w' => e = .returned (.int .i64 z) ∧ ∃ m, w' = w.drewN m := by
  have hp1 : n1 ≤ 1048576 := by have := hp.s1.ints; unfold szPosition at hb'; omega
  have S1 := Lib.hid hp.s1
  have P3 := Lib.hid p3
  have HH : Hid (∀ j, Calls Try.prog 83 #[.slice A1 n1 c1, .int .i64 d'.player, .int .i64 n] (w.drewN j) fun e w' => e = .returned (.int .i64 z) ∧ w.drewN j = w') := fun j => by
    rw [← hz]
    exact l16Hash_any A1 n n1 c1 d'.player d'.pits (w.drewN j) (S1.out.drewN j) p3 p4 p5 p1 p2 hp1
  obtain ⟨x0, x1, x2, s1, s2⟩ := hp
  clear s1 s2 p3 hz
  go_enter Try.func57, Try.ntmps57
  go_wp2_with fail
  first | (refine wp_region_quiet_lit (by kernel_rfl) (by kernel_rfl) ?_; refine WQ.of ?_; (repeat (refine WQ.step (fun K hK => ?_); go_simp; first | (refine hK _ ?_; clear hK K) | (apply Exists.intro; refine ⟨fun _ => ?_, hK _ ?_⟩; ((go_at_call 83; exact quiet_l (HH.out _))); clear hK K))); refine WQ.nil ?_; intro _ hw'; obtain ⟨nq, hw''⟩ := hw'; subst hw'') | go_quiet ((go_at_call 83; exact quiet_l (HH.out _)))
  go_wp2_with fail
  go_ret
  exact ⟨rfl, _, rfl⟩
theorem sSlotOf_x (cs : List Value) (d : MemoryD) (cs' : List Value) (d' : PositionD) (w : World) (h : XMemory w cs d) (h' : XPosition w cs' d') (hb : szMemory d ≤ 1048576) (hb' : szPosition d' ≤ 1048576) : Calls Try.prog 26 #[.agg cs.toArray, .agg cs'.toArray] w fun e w' => e = .returned (.tuple #[.int .i64 (fnSlotOf_0 d d'), .int .i64 (fnSlotOf_1 d d')]) ∧ Below w.heap.size w w' := by
  have HX := Lib.hid h
  have HP := Lib.hid h'
  obtain ⟨A, n, c, rfl, hs, l⟩ := h
  obtain ⟨A1, n1, c1, A2, n2, c2, rfl, s1, l1, s2, l2⟩ := h'
  have HL := Lib.hid hs.len
  have HM : Hid (∀ j, j < n → (d.ss.getD j dS).ps.length ≤ 1048576) := by
    have h5 := slot_len (ss := d.ss) (n := d.ss.length) hb
    rw [HL.out] at h5
    exact h5
  obtain ⟨W0, hW0⟩ : ∃ W, W = ((w.alloc (.cells #[.int .i64 d.r.p, .int .i64 d.r.s, .bool d.r.st, .bool d.r.sk, .bool d.r.re, .bool d.r.fe, .bool d.r.ag, .int .i64 d.r.ca, .int .i64 d.r.sl, .slice A n c] 27)).alloc (.cells #[.slice A1 n1 c1, .slice A2 n2 c2, .int .i64 d'.player] 49)) := ⟨_, rfl⟩
  have B0 : Below w.heap.size w W0 := by rw [hW0]; (repeat' (first | (with_reducible exact Below.refl _ _) | (with_reducible assumption) | (with_reducible refine Below.alloc ?_ ?_ _) | (with_reducible refine Below.drew ?_) | (with_reducible refine belowDrewN ?_ _) | (with_reducible refine Below.setCell ?_ ?_ _) | (with_reducible refine Below.via (by with_reducible assumption) ?_ ?_) | (with_reducible refine Below.viaD (by with_reducible assumption) ?_ ?_) | (with_reducible exact Below.size (by with_reducible assumption)) | go_size | (with_reducible refine Nat.le_trans ?_ (Below.size (by with_reducible assumption))) | (with_reducible refine Nat.le_trans ?_ (sizeAlloc _ _)) | (with_reducible refine Nat.le_trans ?_ (sizeSet _ _ _)) | (with_reducible refine Nat.le_trans ?_ (sizeDrew _))))
  have R0 : Hid (RuAt W0 w.heap.size 0 d.r) := by rw [hW0]; exact (RuAt.new w 27 d.r [.slice A n c]).later (boxed_ _ _)
  have C9 : W0.cell? ⟨w.heap.size, 9, none⟩ = some (.slice A n c) := by rw [hW0]; exact ((Blk.new w 27 #[.int .i64 d.r.p, .int .i64 d.r.s, .bool d.r.st, .bool d.r.sk, .bool d.r.re, .bool d.r.fe, .bool d.r.ag, .int .i64 d.r.ca, .int .i64 d.r.sl, .slice A n c]).later (boxed_ _ _)).cell 9
  have P0 : Hid (PosAt W0 (w.heap.size + 1) 0 A1 n1 c1 A2 n2 c2 d') := by
    rw [hW0]
    exact posBlk (t := 49) (Blk.new' (by simp)) (s1.later (by (repeat' (first | (with_reducible exact Below.refl _ _) | (with_reducible assumption) | (with_reducible refine Below.alloc ?_ ?_ _) | (with_reducible refine Below.drew ?_) | (with_reducible refine belowDrewN ?_ _) | (with_reducible refine Below.setCell ?_ ?_ _) | (with_reducible refine Below.via (by with_reducible assumption) ?_ ?_) | (with_reducible refine Below.viaD (by with_reducible assumption) ?_ ?_) | (with_reducible exact Below.size (by with_reducible assumption)) | go_size | (with_reducible refine Nat.le_trans ?_ (Below.size (by with_reducible assumption))) | (with_reducible refine Nat.le_trans ?_ (sizeAlloc _ _)) | (with_reducible refine Nat.le_trans ?_ (sizeSet _ _ _)) | (with_reducible refine Nat.le_trans ?_ (sizeDrew _)))))) (s2.later (by (repeat' (first | (with_reducible exact Below.refl _ _) | (with_reducible assumption) | (with_reducible refine Below.alloc ?_ ?_ _) | (with_reducible refine Below.drew ?_) | (with_reducible refine belowDrewN ?_ _) | (with_reducible refine Below.setCell ?_ ?_ _) | (with_reducible refine Below.via (by with_reducible assumption) ?_ ?_) | (with_reducible refine Below.viaD (by with_reducible assumption) ?_ ?_) | (with_reducible exact Below.size (by with_reducible assumption)) | go_size | (with_reducible refine Nat.le_trans ?_ (Below.size (by with_reducible assumption))) | (with_reducible refine Nat.le_trans ?_ (sizeAlloc _ _)) | (with_reducible refine Nat.le_trans ?_ (sizeSet _ _ _)) | (with_reducible refine Nat.le_trans ?_ (sizeDrew _))))))
  have S0 : Hid (Sls W0 W0.heap.size A n d.ss) := hs.later B0
  have SL := Lib.hid l
  clear hs s1 l1 s2 l2
  have H9 := Lib.hid C9
  have HW := Lib.hid hW0
  clear hW0 C9
  cases g : memPos d d'
  case false =>
    obtain ⟨e0, e1⟩ := slotOf_no g
    rw [e0, e1]
    have E1 := Lib.hid e1
    clear g e0 e1
    go_enter Try.func26, Try.ntmps26
    go_wp2_with fail
    rw [← HW.out]
    refine (l16Code_any d d' w.heap.size (w.heap.size + 1) n c n1 c1 n2 c2 A A1 A2 W0 R0.out H9.out S0.out l HM.out P0.out hb').mono ?_
    rw [E1.out]
    rintro e w1 ⟨rfl, hb1⟩
    go_wp2_with fail
    go_ret2
    exact ⟨rfl, Below.via hb1 B0 B0.size⟩
  case true =>
    obtain ⟨e0, e1⟩ := slotOf_yes g
    obtain ⟨p1, p2, p3, p4, p5⟩ := memPos_parts g
    rw [HL.out] at e0 p1 p2
    rw [e1]
    obtain ⟨z, hz⟩ : ∃ z, fnSlotOf_0 d d' = z := ⟨_, rfl⟩
    rw [hz]
    have HZ := Lib.hid (e0.symm.trans hz)
    have E1 := Lib.hid e1
    have P3 := Lib.hid p3
    clear g e0 e1 hz p3
    go_enter Try.func26, Try.ntmps26
    go_wp2_with fail
    rw [← HW.out]
    refine (l16Code_any d d' w.heap.size (w.heap.size + 1) n c n1 c1 n2 c2 A A1 A2 W0 R0.out H9.out S0.out l HM.out P0.out hb').mono ?_
    rw [E1.out]
    rintro e w1 ⟨rfl, hb1⟩
    go_wp2_with fail
    refine (l16Place_any w.heap.size (w.heap.size + 1) n c n1 c1 n2 c2 A A1 A2 d' w1 ((hb1.cell (p := ⟨_, _, none⟩) (cell_lt H9.out)).trans H9.out) (P0.out.later hb1) p1 p2 P3.out p4 p5 hb' z HZ.out).mono ?_
    rintro e w2 ⟨rfl, m2, rfl⟩
    go_wp2_with fail
    go_ret2
    exact ⟨rfl, belowDrewN (Below.via hb1 B0 B0.size) _⟩
end Go.Proofs.Ytpcenpedbdenmaa
