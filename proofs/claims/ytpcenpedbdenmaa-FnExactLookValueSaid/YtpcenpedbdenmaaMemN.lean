/- LookValue of both sides. Conditions: lists below 2^20. -/
import Derived.Test.YtpcenpedbdenmaaMemL
namespace Go.Proofs.Ytpcenpedbdenmaa
set_option linter.unusedSimpArgs false
set_option linter.unusedVariables false
open Go.RowKit Go.WideShapes Go.ChangeShapes Go.Deep

theorem slot_k {d : MemoryD} {d' : PositionD} {n k : Nat} (hl : d.ss.length = n) (h : (placeR d'.pits d'.player n).toNat = k) : slotAt d d' = d.ss.getD k dS := by rw [slotAt, hl, h]
set_option maxRecDepth 100000 in
set_option maxHeartbeats 4000000 in
theorem sLookValue_x (cs : List Value) (d : MemoryD) (cs' : List Value) (d' : PositionD) (z : Int) (w : World) (h : XMemory w cs d) (h' : XPosition w cs' d') (hb : szMemory d ≤ 1048576) (hb' : szPosition d' ≤ 1048576) : Calls Try.prog 30 #[.agg cs.toArray, .agg cs'.toArray, .int .i64 z] w fun e w' => e = .returned (.tuple #[.int .i64 (fnLookValue_0 d d' z), .int .i64 (fnLookValue_1 d d' z), .int .i64 (fnLookValue_2 d d' z)]) ∧ Below w.heap.size w w' := by
  obtain ⟨A, n, c, rfl, hs, l⟩ := h
  obtain ⟨A1, n1, c1, A2, n2, c2, rfl, s1, l1, s2, l2⟩ := h'
  have HL := Lib.hid hs.len
  have HM : Hid (∀ j, j < n → (d.ss.getD j dS).ps.length ≤ 1048576) := by
    have h5 := slot_len (ss := d.ss) (n := d.ss.length) hb
    rw [HL.out] at h5
    exact h5
  obtain ⟨W0, hW0⟩ : ∃ W, W = ((w.alloc (.cells #[.int .i64 d.r.p, .int .i64 d.r.s, .bool d.r.st, .bool d.r.sk, .bool d.r.re, .bool d.r.fe, .bool d.r.ag, .int .i64 d.r.ca, .int .i64 d.r.sl, .slice A n c] 27)).alloc (.cells #[.slice A1 n1 c1, .slice A2 n2 c2, .int .i64 d'.player] 49)) := ⟨_, rfl⟩
  have B0 : Below w.heap.size w W0 := by rw [hW0]; (repeat' (first | (with_reducible exact Below.refl _ _) | (with_reducible assumption) | (with_reducible refine Below.alloc ?_ ?_ _) | (with_reducible refine Below.drew ?_) | (with_reducible refine belowDrewN ?_ _) | (with_reducible refine Below.setCell ?_ ?_ _) | (with_reducible refine Below.via (by with_reducible assumption) ?_ ?_) | (with_reducible refine Below.viaD (by with_reducible assumption) ?_ ?_) | (with_reducible exact Below.size (by with_reducible assumption)) | go_size | (with_reducible refine Nat.le_trans ?_ (Below.size (by with_reducible assumption))) | (with_reducible refine Nat.le_trans ?_ (sizeAlloc _ _)) | (with_reducible refine Nat.le_trans ?_ (sizeSet _ _ _)) | (with_reducible refine Nat.le_trans ?_ (sizeDrew _))))
  have R0 : Hid (RuAt W0 w.heap.size 0 d.r) := by rw [hW0]; exact (RuAt.new w 27 d.r [.slice A n c]).later (boxed_ _ _)
  have C9 : W0.cell? ⟨w.heap.size, 9, none⟩ = some (.slice A n c) := by rw [hW0]; exact ((Blk.new w 27 #[.int .i64 d.r.p, .int .i64 d.r.s, .bool d.r.st, .bool d.r.sk, .bool d.r.re, .bool d.r.fe, .bool d.r.ag, .int .i64 d.r.ca, .int .i64 d.r.sl, .slice A n c]).later (boxed_ _ _)).cell 9
  have P0 : Hid (PosAt W0 (w.heap.size + 1) 0 A1 n1 c1 A2 n2 c2 d') := by
    rw [hW0]
    exact posBlk (t := 49) (Blk.new' (by simp)) (s1.later (by (repeat' (first | (with_reducible exact Below.refl _ _) | (with_reducible assumption) | (with_reducible refine Below.alloc ?_ ?_ _) | (with_reducible refine Below.drew ?_) | (with_reducible refine belowDrewN ?_ _) | (with_reducible refine Below.setCell ?_ ?_ _) | (with_reducible refine Below.via (by with_reducible assumption) ?_ ?_) | (with_reducible refine Below.viaD (by with_reducible assumption) ?_ ?_) | (with_reducible exact Below.size (by with_reducible assumption)) | go_size | (with_reducible refine Nat.le_trans ?_ (Below.size (by with_reducible assumption))) | (with_reducible refine Nat.le_trans ?_ (sizeAlloc _ _)) | (with_reducible refine Nat.le_trans ?_ (sizeSet _ _ _)) | (with_reducible refine Nat.le_trans ?_ (sizeDrew _)))))) (s2.later (by (repeat' (first | (with_reducible exact Below.refl _ _) | (with_reducible assumption) | (with_reducible refine Below.alloc ?_ ?_ _) | (with_reducible refine Below.drew ?_) | (with_reducible refine belowDrewN ?_ _) | (with_reducible refine Below.setCell ?_ ?_ _) | (with_reducible refine Below.via (by with_reducible assumption) ?_ ?_) | (with_reducible refine Below.viaD (by with_reducible assumption) ?_ ?_) | (with_reducible exact Below.size (by with_reducible assumption)) | go_size | (with_reducible refine Nat.le_trans ?_ (Below.size (by with_reducible assumption))) | (with_reducible refine Nat.le_trans ?_ (sizeAlloc _ _)) | (with_reducible refine Nat.le_trans ?_ (sizeSet _ _ _)) | (with_reducible refine Nat.le_trans ?_ (sizeDrew _))))))
  have S0 : Hid (Sls W0 W0.heap.size A n d.ss) := hs.later B0
  have SL := Lib.hid l
  clear hs s1 l1 s2 l2
  have H9 := Lib.hid C9
  have HW := Lib.hid hW0
  clear hW0 C9
  cases g : memPos d d'
  case false =>
    obtain ⟨e0, e1⟩ := slotOf_no g
    obtain ⟨f0, f1, f2⟩ := look_no (z := z) g
    rw [f0, f1, f2]
    have E1 := Lib.hid e1
    clear g e0 e1 f0 f1 f2
    go_enter Try.func30, Try.ntmps30
    go_wp2_with fail
    rw [← HW.out]
    refine (l16Code_any d d' w.heap.size (w.heap.size + 1) n c n1 c1 n2 c2 A A1 A2 W0 R0.out H9.out S0.out l HM.out P0.out hb').mono ?_
    rw [E1.out]
    rintro e w1 ⟨rfl, hb1⟩
    go_wp2_with fail
    go_ret3
    exact ⟨rfl, Below.via hb1 B0 B0.size⟩
  case true =>
    obtain ⟨e0, e1⟩ := slotOf_yes g
    obtain ⟨p1, p2, p3, p4, p5⟩ := memPos_parts g
    rw [HL.out] at e0 p1 p2
    obtain ⟨k, hk, hz, hk2⟩ := place_bd (ps := d'.pits) (p := d'.player) (n := n) p1
    have hsl := slot_k (d := d) (d' := d') HL.out hk2
    obtain ⟨bs, off, u, ps, p, dp, v, bd, A3, m, c3, rfl, hbl, HS, hat, -, -⟩ := S0.out.row hk
    obtain ⟨f, hf⟩ : ∃ f, isThere ⟨u, ps, p, dp, v, bd⟩ d' z = f := ⟨_, rfl⟩
    rw [HS.out] at hsl
    have HF : Hid (∀ W, Below W0.heap.size W0 W → Calls Try.prog 62 #[.pointer (some ⟨w.heap.size, 0, none⟩), .pointer (some ⟨w.heap.size + 1, 0, none⟩), .int .i64 z] W fun e w' => e = .returned (.tuple #[.pointer (some ⟨bs, off + k * 6, none⟩), .bool f]) ∧ Below W.heap.size W w') := fun W hW =>
      find_any _ _ _ _ _ _ _ _ _ _ _ _ _ d d' z _ f W ((hW.cell (p := ⟨_, _, none⟩) (cell_lt H9.out)).trans H9.out) (S0.out.later hW) (P0.out.later hW) hk HS.out hf p1 p2 p3 p4 p5 hb' hz
    have HAT := Lib.hid hat
    have E1 := Lib.hid e1
    have kb1 : (0 : Int) ≤ (k : Int) := by omega
    cases f
    case false =>
      obtain ⟨f0, f1, f2⟩ := look_un g (by rw [hsl]; exact hf)
      rw [f0, f1, f2]
      clear g e0 e1 p3 hz hk2 hsl hf hat f0 f1 f2
      go_enter Try.func30, Try.ntmps30
      go_wp2_with fail
      rw [← HW.out]
      refine (l16Code_any d d' w.heap.size (w.heap.size + 1) n c n1 c1 n2 c2 _ A1 A2 W0 R0.out H9.out S0.out l HM.out P0.out hb').mono ?_
      rw [E1.out]
      rintro e w1 ⟨rfl, hb1⟩
      go_wp2_with fail
      refine (HF.out w1 hb1).mono ?_
      rintro e w2 ⟨rfl, hb2⟩
      have B2 := Below.via hb2 (Below.via hb1 B0 B0.size) (Nat.le_trans B0.size hb1.size)
      go_wp2_with fail
      go_ret3
      exact ⟨rfl, B2⟩
    case true =>
      obtain ⟨f0, f1, f2⟩ := look_yes g (by rw [hsl]; exact hf)
      rw [f0, f1, f2, hsl]
      clear g e0 e1 p3 hz hk2 hsl hf hat f0 f1 f2
      go_enter Try.func30, Try.ntmps30
      go_wp2_with fail
      rw [← HW.out]
      refine (l16Code_any d d' w.heap.size (w.heap.size + 1) n c n1 c1 n2 c2 _ A1 A2 W0 R0.out H9.out S0.out l HM.out P0.out hb').mono ?_
      rw [E1.out]
      rintro e w1 ⟨rfl, hb1⟩
      go_wp2_with fail
      refine (HF.out w1 hb1).mono ?_
      rintro e w2 ⟨rfl, hb2⟩
      have B2 := Below.via hb2 (Below.via hb1 B0 B0.size) (Nat.le_trans B0.size hb1.size)
      have B3 := Below.via hb2 hb1 hb1.size
      have x4 : w2.cell? ⟨bs, off + k * 6 + 4, none⟩ = some (.int .i64 v) := (B3.cell (p := ⟨bs, off + k * 6 + 4, none⟩) hbl).trans HAT.out.c4
      have x5 : w2.cell? ⟨bs, off + k * 6 + 5, none⟩ = some (.int .i64 bd) := (B3.cell (p := ⟨bs, off + k * 6 + 5, none⟩) hbl).trans HAT.out.c5
      go_wp2_with fail
      first | (refine wp_region_quiet_lit (by kernel_rfl) (by kernel_rfl) ?_; refine WQ.of ?_; (repeat (refine WQ.step (fun K hK => ?_); go_simp; first | (refine hK _ ?_; clear hK K) | (apply Exists.intro; refine ⟨fun _ => ?_, hK _ ?_⟩; (fail); clear hK K))); refine WQ.nil ?_; intro _ hw'; obtain ⟨nq, hw''⟩ := hw'; subst hw'') | go_quiet (fail)
      go_wp2_with fail
      go_ret3
      exact ⟨rfl, by first | exact B2 | exact belowDrewN B2 _⟩
set_option maxRecDepth 100000 in
set_option maxHeartbeats 4000000 in
theorem LookValue_x (cs : List Value) (d : MemoryD) (cs' : List Value) (d' : PositionD) (z : Int) (w : World) (h : XMemory w cs d) (h' : XPosition w cs' d') (hb : szMemory d ≤ 1048576) (hb' : szPosition d' ≤ 1048576) : Calls Try.prog 31 #[.agg cs.toArray, .agg cs'.toArray, .int .i64 z] w fun e w' => e = .returned (.tuple #[.int .i64 (fnLookValue_0 d d' z), .int .i64 (fnLookValue_1 d d' z), .int .i64 (fnLookValue_2 d d' z)]) ∧ Below w.heap.size w w' := by
  have HX := Lib.hid h
  have HP := Lib.hid h'
  obtain ⟨A, n, c, rfl, hs, l⟩ := h
  obtain ⟨A1, n1, c1, A2, n2, c2, rfl, s1, l1, s2, l2⟩ := h'
  have HL := Lib.hid hs.len
  have hp1 : n1 ≤ 1048576 := by have := s1.ints; unfold szPosition at hb'; omega
  have S1 := Lib.hid s1
  have SS := Lib.hid hs
  clear hs l s1 l1 s2 l2
  cases g : memPos d d'
  case false =>
    obtain ⟨f0, f1, f2⟩ := look_no (z := z) g
    rw [f0, f1, f2]
    have G := Lib.hid g
    clear g f0 f1 f2
    go_enter Try.func31, Try.ntmps31
    go_wp2_with (go_at_call 59; (with_reducible refine Calls.mono (areRemembered_x [.int .i64 d.r.p, .int .i64 d.r.s, .bool d.r.st, .bool d.r.sk, .bool d.r.re, .bool d.r.fe, .bool d.r.ag, .int .i64 d.r.ca, .int .i64 d.r.sl, .slice A n c] d [.slice A1 n1 c1, .slice A2 n2 c2, .int .i64 d'.player] d' _ ?_ ?_ hb hb') ?_); (exact HX.out.later (by (repeat' (first | (with_reducible exact Below.refl _ _) | (with_reducible assumption) | (with_reducible refine Below.alloc ?_ ?_ _) | (with_reducible refine Below.drew ?_) | (with_reducible refine belowDrewN ?_ _) | (with_reducible refine Below.setCell ?_ ?_ _) | (with_reducible refine Below.via (by with_reducible assumption) ?_ ?_) | (with_reducible refine Below.viaD (by with_reducible assumption) ?_ ?_) | (with_reducible exact Below.size (by with_reducible assumption)) | go_size | (with_reducible refine Nat.le_trans ?_ (Below.size (by with_reducible assumption))) | (with_reducible refine Nat.le_trans ?_ (sizeAlloc _ _)) | (with_reducible refine Nat.le_trans ?_ (sizeSet _ _ _)) | (with_reducible refine Nat.le_trans ?_ (sizeDrew _)))))); (exact HP.out.later (by (repeat' (first | (with_reducible exact Below.refl _ _) | (with_reducible assumption) | (with_reducible refine Below.alloc ?_ ?_ _) | (with_reducible refine Below.drew ?_) | (with_reducible refine belowDrewN ?_ _) | (with_reducible refine Below.setCell ?_ ?_ _) | (with_reducible refine Below.via (by with_reducible assumption) ?_ ?_) | (with_reducible refine Below.viaD (by with_reducible assumption) ?_ ?_) | (with_reducible exact Below.size (by with_reducible assumption)) | go_size | (with_reducible refine Nat.le_trans ?_ (Below.size (by with_reducible assumption))) | (with_reducible refine Nat.le_trans ?_ (sizeAlloc _ _)) | (with_reducible refine Nat.le_trans ?_ (sizeSet _ _ _)) | (with_reducible refine Nat.le_trans ?_ (sizeDrew _)))))); rw [G.out]; rintro e w1 ⟨rfl, hb1⟩)
    go_ret3
    exact ⟨rfl, by (repeat' (first | (with_reducible exact Below.refl _ _) | (with_reducible assumption) | (with_reducible refine Below.alloc ?_ ?_ _) | (with_reducible refine Below.drew ?_) | (with_reducible refine belowDrewN ?_ _) | (with_reducible refine Below.setCell ?_ ?_ _) | (with_reducible refine Below.via (by with_reducible assumption) ?_ ?_) | (with_reducible refine Below.viaD (by with_reducible assumption) ?_ ?_) | (with_reducible exact Below.size (by with_reducible assumption)) | go_size | (with_reducible refine Nat.le_trans ?_ (Below.size (by with_reducible assumption))) | (with_reducible refine Nat.le_trans ?_ (sizeAlloc _ _)) | (with_reducible refine Nat.le_trans ?_ (sizeSet _ _ _)) | (with_reducible refine Nat.le_trans ?_ (sizeDrew _))))⟩
  case true =>
    obtain ⟨e0, e1⟩ := slotOf_yes g
    obtain ⟨p1, p2, p3, p4, p5⟩ := memPos_parts g
    rw [HL.out] at e0 p1 p2
    obtain ⟨k, hk, hz, hk2⟩ := place_bd (ps := d'.pits) (p := d'.player) (n := n) p1
    have hsl := slot_k (d := d) (d' := d') HL.out hk2
    obtain ⟨bs, off, u, ps, p, dp, v, bd, A3, m, c3, rfl, hbl, HS, hat, -, -⟩ := SS.out.row hk
    obtain ⟨f, hf⟩ : ∃ f, isThere ⟨u, ps, p, dp, v, bd⟩ d' z = f := ⟨_, rfl⟩
    rw [HS.out] at hsl
    have PL : ∀ W, Below w.heap.size w W → Calls Try.prog 60 #[.agg #[.int .i64 d.r.p, .int .i64 d.r.s, .bool d.r.st, .bool d.r.sk, .bool d.r.re, .bool d.r.fe, .bool d.r.ag, .int .i64 d.r.ca, .int .i64 d.r.sl, .slice (some ⟨bs, off, none⟩) n c], .agg #[.slice A1 n1 c1, .slice A2 n2 c2, .int .i64 d'.player]] W fun e w' => e = .returned (.int .i64 (k : Nat)) ∧ Below W.heap.size W w' := fun W hW => by
      rw [← hz]
      exact place_any d.r _ A1 A2 n c n1 c1 n2 c2 d'.player d'.pits W (S1.out.later hW) p3 p4 p5 p1 p2 hp1
    have HLK : Hid (∀ W, Below w.heap.size w W → Calls Try.prog 63 #[.agg #[.int .i64 d.r.p, .int .i64 d.r.s, .bool d.r.st, .bool d.r.sk, .bool d.r.re, .bool d.r.fe, .bool d.r.ag, .int .i64 d.r.ca, .int .i64 d.r.sl, .slice (some ⟨bs, off, none⟩) n c], .agg #[.slice A1 n1 c1, .slice A2 n2 c2, .int .i64 d'.player], .int .i64 z] W fun e w' => (∃ A3 m c3, e = .returned (.tuple #[.agg #[.bool u, .slice A3 m c3, .int .i64 p, .int .i64 dp, .int .i64 v, .int .i64 bd], .bool f])) ∧ Below W.heap.size W w') := fun W hW =>
      look_any d d' A1 A2 bs off n c n1 c1 n2 c2 k z ⟨u, ps, p, dp, v, bd⟩ f W (SS.out.later hW) (Nat.lt_of_lt_of_le hbl hW.size) (S1.out.later hW) hk HS.out hf hp1 p2 (fun W' hW' => PL W' (Below.via hW' hW hW.size))
    have G := Lib.hid g
    cases f
    case false =>
      obtain ⟨f0, f1, f2⟩ := look_un g (by rw [hsl]; exact hf)
      rw [f0, f1, f2]
      clear g e0 e1 p3 hz hk2 hsl hf hat f0 f1 f2 PL
      go_enter Try.func31, Try.ntmps31
      go_wp2_with (first | (go_at_call 59; (with_reducible refine Calls.mono (areRemembered_x [.int .i64 d.r.p, .int .i64 d.r.s, .bool d.r.st, .bool d.r.sk, .bool d.r.re, .bool d.r.fe, .bool d.r.ag, .int .i64 d.r.ca, .int .i64 d.r.sl, .slice (some ⟨bs, off, none⟩) n c] d [.slice A1 n1 c1, .slice A2 n2 c2, .int .i64 d'.player] d' _ ?_ ?_ hb hb') ?_); (exact HX.out.later (by (repeat' (first | (with_reducible exact Below.refl _ _) | (with_reducible assumption) | (with_reducible refine Below.alloc ?_ ?_ _) | (with_reducible refine Below.drew ?_) | (with_reducible refine belowDrewN ?_ _) | (with_reducible refine Below.setCell ?_ ?_ _) | (with_reducible refine Below.via (by with_reducible assumption) ?_ ?_) | (with_reducible refine Below.viaD (by with_reducible assumption) ?_ ?_) | (with_reducible exact Below.size (by with_reducible assumption)) | go_size | (with_reducible refine Nat.le_trans ?_ (Below.size (by with_reducible assumption))) | (with_reducible refine Nat.le_trans ?_ (sizeAlloc _ _)) | (with_reducible refine Nat.le_trans ?_ (sizeSet _ _ _)) | (with_reducible refine Nat.le_trans ?_ (sizeDrew _)))))); (exact HP.out.later (by (repeat' (first | (with_reducible exact Below.refl _ _) | (with_reducible assumption) | (with_reducible refine Below.alloc ?_ ?_ _) | (with_reducible refine Below.drew ?_) | (with_reducible refine belowDrewN ?_ _) | (with_reducible refine Below.setCell ?_ ?_ _) | (with_reducible refine Below.via (by with_reducible assumption) ?_ ?_) | (with_reducible refine Below.viaD (by with_reducible assumption) ?_ ?_) | (with_reducible exact Below.size (by with_reducible assumption)) | go_size | (with_reducible refine Nat.le_trans ?_ (Below.size (by with_reducible assumption))) | (with_reducible refine Nat.le_trans ?_ (sizeAlloc _ _)) | (with_reducible refine Nat.le_trans ?_ (sizeSet _ _ _)) | (with_reducible refine Nat.le_trans ?_ (sizeDrew _)))))); rw [G.out]; rintro e w1 ⟨rfl, hb1⟩; obtain ⟨hc1, hf1, hl1, hz1⟩ := bfacts hb1) | (go_at_call 63; (with_reducible refine Calls.mono (HLK.out _ ?_) ?_); (exact by (repeat' (first | (with_reducible exact Below.refl _ _) | (with_reducible assumption) | (with_reducible refine Below.alloc ?_ ?_ _) | (with_reducible refine Below.drew ?_) | (with_reducible refine belowDrewN ?_ _) | (with_reducible refine Below.setCell ?_ ?_ _) | (with_reducible refine Below.via (by with_reducible assumption) ?_ ?_) | (with_reducible refine Below.viaD (by with_reducible assumption) ?_ ?_) | (with_reducible exact Below.size (by with_reducible assumption)) | go_size | (with_reducible refine Nat.le_trans ?_ (Below.size (by with_reducible assumption))) | (with_reducible refine Nat.le_trans ?_ (sizeAlloc _ _)) | (with_reducible refine Nat.le_trans ?_ (sizeSet _ _ _)) | (with_reducible refine Nat.le_trans ?_ (sizeDrew _))))); rintro e w2 ⟨⟨A4, m4, c4, rfl⟩, hb2⟩))
      go_ret3
      exact ⟨rfl, by (repeat' (first | (with_reducible exact Below.refl _ _) | (with_reducible assumption) | (with_reducible refine Below.alloc ?_ ?_ _) | (with_reducible refine Below.drew ?_) | (with_reducible refine belowDrewN ?_ _) | (with_reducible refine Below.setCell ?_ ?_ _) | (with_reducible refine Below.via (by with_reducible assumption) ?_ ?_) | (with_reducible refine Below.viaD (by with_reducible assumption) ?_ ?_) | (with_reducible exact Below.size (by with_reducible assumption)) | go_size | (with_reducible refine Nat.le_trans ?_ (Below.size (by with_reducible assumption))) | (with_reducible refine Nat.le_trans ?_ (sizeAlloc _ _)) | (with_reducible refine Nat.le_trans ?_ (sizeSet _ _ _)) | (with_reducible refine Nat.le_trans ?_ (sizeDrew _))))⟩
    case true =>
      obtain ⟨f0, f1, f2⟩ := look_yes g (by rw [hsl]; exact hf)
      rw [f0, f1, f2, hsl]
      clear g e0 e1 p3 hz hk2 hsl hf hat f0 f1 f2 PL
      go_enter Try.func31, Try.ntmps31
      go_wp2_with (first | (go_at_call 59; (with_reducible refine Calls.mono (areRemembered_x [.int .i64 d.r.p, .int .i64 d.r.s, .bool d.r.st, .bool d.r.sk, .bool d.r.re, .bool d.r.fe, .bool d.r.ag, .int .i64 d.r.ca, .int .i64 d.r.sl, .slice (some ⟨bs, off, none⟩) n c] d [.slice A1 n1 c1, .slice A2 n2 c2, .int .i64 d'.player] d' _ ?_ ?_ hb hb') ?_); (exact HX.out.later (by (repeat' (first | (with_reducible exact Below.refl _ _) | (with_reducible assumption) | (with_reducible refine Below.alloc ?_ ?_ _) | (with_reducible refine Below.drew ?_) | (with_reducible refine belowDrewN ?_ _) | (with_reducible refine Below.setCell ?_ ?_ _) | (with_reducible refine Below.via (by with_reducible assumption) ?_ ?_) | (with_reducible refine Below.viaD (by with_reducible assumption) ?_ ?_) | (with_reducible exact Below.size (by with_reducible assumption)) | go_size | (with_reducible refine Nat.le_trans ?_ (Below.size (by with_reducible assumption))) | (with_reducible refine Nat.le_trans ?_ (sizeAlloc _ _)) | (with_reducible refine Nat.le_trans ?_ (sizeSet _ _ _)) | (with_reducible refine Nat.le_trans ?_ (sizeDrew _)))))); (exact HP.out.later (by (repeat' (first | (with_reducible exact Below.refl _ _) | (with_reducible assumption) | (with_reducible refine Below.alloc ?_ ?_ _) | (with_reducible refine Below.drew ?_) | (with_reducible refine belowDrewN ?_ _) | (with_reducible refine Below.setCell ?_ ?_ _) | (with_reducible refine Below.via (by with_reducible assumption) ?_ ?_) | (with_reducible refine Below.viaD (by with_reducible assumption) ?_ ?_) | (with_reducible exact Below.size (by with_reducible assumption)) | go_size | (with_reducible refine Nat.le_trans ?_ (Below.size (by with_reducible assumption))) | (with_reducible refine Nat.le_trans ?_ (sizeAlloc _ _)) | (with_reducible refine Nat.le_trans ?_ (sizeSet _ _ _)) | (with_reducible refine Nat.le_trans ?_ (sizeDrew _)))))); rw [G.out]; rintro e w1 ⟨rfl, hb1⟩; obtain ⟨hc1, hf1, hl1, hz1⟩ := bfacts hb1) | (go_at_call 63; (with_reducible refine Calls.mono (HLK.out _ ?_) ?_); (exact by (repeat' (first | (with_reducible exact Below.refl _ _) | (with_reducible assumption) | (with_reducible refine Below.alloc ?_ ?_ _) | (with_reducible refine Below.drew ?_) | (with_reducible refine belowDrewN ?_ _) | (with_reducible refine Below.setCell ?_ ?_ _) | (with_reducible refine Below.via (by with_reducible assumption) ?_ ?_) | (with_reducible refine Below.viaD (by with_reducible assumption) ?_ ?_) | (with_reducible exact Below.size (by with_reducible assumption)) | go_size | (with_reducible refine Nat.le_trans ?_ (Below.size (by with_reducible assumption))) | (with_reducible refine Nat.le_trans ?_ (sizeAlloc _ _)) | (with_reducible refine Nat.le_trans ?_ (sizeSet _ _ _)) | (with_reducible refine Nat.le_trans ?_ (sizeDrew _))))); rintro e w2 ⟨⟨A4, m4, c4, rfl⟩, hb2⟩))
      first | (refine wp_region_quiet_lit (by kernel_rfl) (by kernel_rfl) ?_; refine WQ.of ?_; (repeat (refine WQ.step (fun K hK => ?_); go_simp; first | (refine hK _ ?_; clear hK K) | (apply Exists.intro; refine ⟨fun _ => ?_, hK _ ?_⟩; (fail); clear hK K))); refine WQ.nil ?_; intro _ hw'; obtain ⟨nq, hw''⟩ := hw'; subst hw'') | go_quiet (fail)
      go_wp2_with fail
      go_ret3
      exact ⟨rfl, by first | (repeat' (first | (with_reducible exact Below.refl _ _) | (with_reducible assumption) | (with_reducible refine Below.alloc ?_ ?_ _) | (with_reducible refine Below.drew ?_) | (with_reducible refine belowDrewN ?_ _) | (with_reducible refine Below.setCell ?_ ?_ _) | (with_reducible refine Below.via (by with_reducible assumption) ?_ ?_) | (with_reducible refine Below.viaD (by with_reducible assumption) ?_ ?_) | (with_reducible exact Below.size (by with_reducible assumption)) | go_size | (with_reducible refine Nat.le_trans ?_ (Below.size (by with_reducible assumption))) | (with_reducible refine Nat.le_trans ?_ (sizeAlloc _ _)) | (with_reducible refine Nat.le_trans ?_ (sizeSet _ _ _)) | (with_reducible refine Nat.le_trans ?_ (sizeDrew _)))) | (exact belowDrewN (by (repeat' (first | (with_reducible exact Below.refl _ _) | (with_reducible assumption) | (with_reducible refine Below.alloc ?_ ?_ _) | (with_reducible refine Below.drew ?_) | (with_reducible refine belowDrewN ?_ _) | (with_reducible refine Below.setCell ?_ ?_ _) | (with_reducible refine Below.via (by with_reducible assumption) ?_ ?_) | (with_reducible refine Below.viaD (by with_reducible assumption) ?_ ?_) | (with_reducible exact Below.size (by with_reducible assumption)) | go_size | (with_reducible refine Nat.le_trans ?_ (Below.size (by with_reducible assumption))) | (with_reducible refine Nat.le_trans ?_ (sizeAlloc _ _)) | (with_reducible refine Nat.le_trans ?_ (sizeSet _ _ _)) | (with_reducible refine Nat.le_trans ?_ (sizeDrew _))))) _)⟩
end Go.Proofs.Ytpcenpedbdenmaa
