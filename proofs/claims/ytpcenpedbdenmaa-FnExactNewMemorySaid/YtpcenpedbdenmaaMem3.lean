/- NewMemory: the law. No conditions. -/
import Derived.Test.YtpcenpedbdenmaaMem2
namespace Go.Proofs.Ytpcenpedbdenmaa
set_option linter.unusedSimpArgs false
set_option linter.unusedVariables false
open Go.RowKit

theorem grown_boxed {w w' : World} {o : Obj} {r : Option Nat} (h : (w.alloc o).grownBy w' r) : w.grownBy w' r := ⟨h.os, h.tape, h.output, Nat.le_trans (sizeAlloc _ _) h.size, fun k hk hne => (h.block k (by simp; omega) hne).trans (Below.heap_alloc w o k hk)⟩
set_option maxHeartbeats 1000000 in
theorem eqMemory_same (r : Ru) (A A' : Option Addr) (n c c' : Nat) (w : World) (hs : Sl w w.heap.size 6 A n (zeroS n)) (hs' : Sl w w.heap.size 6 A' n (zeroS n)) (hn : n ≤ 64) : Calls Try.prog 14 #[.agg #[.int .i64 r.p, .int .i64 r.s, .bool r.st, .bool r.sk, .bool r.re, .bool r.fe, .bool r.ag, .int .i64 r.ca, .int .i64 r.sl, .slice A n c], .agg #[.int .i64 r.p, .int .i64 r.s, .bool r.st, .bool r.sk, .bool r.re, .bool r.fe, .bool r.ag, .int .i64 r.ca, .int .i64 r.sl, .slice A' n c']] w fun e w' => e = .returned (.bool true) ∧ Below w.heap.size w w' := by
  go_enter Try.func14, Try.ntmps14
  go_wp2_with fail
  refine (eqRules_same r _).mono ?_
  rintro e w1 ⟨rfl, hb1⟩
  obtain ⟨hc1, hf1, hl1, hz1⟩ := bfacts hb1
  go_wp2_with fail
  refine (eqSlotS_zero A A' n c c' _ (hs.later (by (repeat' (first | (with_reducible exact Below.refl _ _) | (with_reducible assumption) | (with_reducible refine Below.alloc ?_ ?_ _) | (with_reducible refine Below.drew ?_) | (with_reducible refine belowDrewN ?_ _) | (with_reducible refine Below.setCell ?_ ?_ _) | (with_reducible refine Below.via (by with_reducible assumption) ?_ ?_) | (with_reducible exact Below.size (by with_reducible assumption)) | go_size | (with_reducible refine Nat.le_trans ?_ (Below.size (by with_reducible assumption))) | (with_reducible refine Nat.le_trans ?_ (sizeAlloc _ _)) | (with_reducible refine Nat.le_trans ?_ (sizeSet _ _ _)) | (with_reducible refine Nat.le_trans ?_ (sizeDrew _)))))) (hs'.later (by (repeat' (first | (with_reducible exact Below.refl _ _) | (with_reducible assumption) | (with_reducible refine Below.alloc ?_ ?_ _) | (with_reducible refine Below.drew ?_) | (with_reducible refine belowDrewN ?_ _) | (with_reducible refine Below.setCell ?_ ?_ _) | (with_reducible refine Below.via (by with_reducible assumption) ?_ ?_) | (with_reducible exact Below.size (by with_reducible assumption)) | go_size | (with_reducible refine Nat.le_trans ?_ (Below.size (by with_reducible assumption))) | (with_reducible refine Nat.le_trans ?_ (sizeAlloc _ _)) | (with_reducible refine Nat.le_trans ?_ (sizeSet _ _ _)) | (with_reducible refine Nat.le_trans ?_ (sizeDrew _)))))) hn).mono ?_
  rintro e w2 ⟨rfl, hb2⟩
  go_wp2_with fail
  go_ret
  exact ⟨rfl, by (repeat' (first | (with_reducible exact Below.refl _ _) | (with_reducible assumption) | (with_reducible refine Below.alloc ?_ ?_ _) | (with_reducible refine Below.drew ?_) | (with_reducible refine belowDrewN ?_ _) | (with_reducible refine Below.setCell ?_ ?_ _) | (with_reducible refine Below.via (by with_reducible assumption) ?_ ?_) | (with_reducible exact Below.size (by with_reducible assumption)) | go_size | (with_reducible refine Nat.le_trans ?_ (Below.size (by with_reducible assumption))) | (with_reducible refine Nat.le_trans ?_ (sizeAlloc _ _)) | (with_reducible refine Nat.le_trans ?_ (sizeSet _ _ _)) | (with_reducible refine Nat.le_trans ?_ (sizeDrew _))))⟩
set_option maxHeartbeats 1000000 in
theorem markMemory_any (r : Ru) (A : Option Addr) (n c g : Nat) (k0 : Int) (w : World) (ho : OwnV w g 81 6 A n (zeroS n)) (hn : n ≤ 64) (h0 : 0 ≤ k0) (h1 : k0 ≤ 1048576) : Calls Try.prog 15 #[.agg #[.int .i64 r.p, .int .i64 r.s, .bool r.st, .bool r.sk, .bool r.re, .bool r.fe, .bool r.ag, .int .i64 r.ca, .int .i64 r.sl, .slice A n c], .int .i64 k0] w fun e w' => e = .returned (.int .i64 (k0 + (n * 5 : Nat))) ∧ OwnV w' g 81 6 A n ((List.range (n * 6)).map (mkS k0)) ∧ w.grownBy w' (some g) := by
  go_enter Try.func15, Try.ntmps15
  go_wp2_with fail
  refine (markSlotS_any A n c g k0 _ (ho.later (boxed_ _ _)) hn h0 h1).mono ?_
  rintro e w1 ⟨rfl, o1, hg1⟩
  go_wp2_with fail
  go_ret
  exact ⟨rfl, o1, grown_boxed hg1⟩
set_option maxHeartbeats 1000000 in
theorem heldMemory_any (r : Ru) (A : Option Addr) (n c : Nat) (k0 : Int) (w : World) (hs : Sl w w.heap.size 6 A n ((List.range (n * 6)).map (mkS k0))) (hn : n ≤ 64) (h0 : 0 ≤ k0) (h1 : k0 ≤ 1048576) : Calls Try.prog 16 #[.agg #[.int .i64 r.p, .int .i64 r.s, .bool r.st, .bool r.sk, .bool r.re, .bool r.fe, .bool r.ag, .int .i64 r.ca, .int .i64 r.sl, .slice A n c], .int .i64 k0] w fun e w' => e = .returned (.int .i64 (k0 + (n * 5 : Nat))) ∧ Below w.heap.size w w' := by
  go_enter Try.func16, Try.ntmps16
  go_wp2_with fail
  refine (heldSlotS_any A n c k0 _ (hs.boxed _) hn h0 h1).mono ?_
  rintro e w1 ⟨rfl, rfl⟩
  go_wp2_with fail
  go_ret
  exact ⟨rfl, by (repeat' (first | (with_reducible exact Below.refl _ _) | (with_reducible assumption) | (with_reducible refine Below.alloc ?_ ?_ _) | (with_reducible refine Below.drew ?_) | (with_reducible refine belowDrewN ?_ _) | (with_reducible refine Below.setCell ?_ ?_ _) | (with_reducible refine Below.via (by with_reducible assumption) ?_ ?_) | (with_reducible exact Below.size (by with_reducible assumption)) | go_size | (with_reducible refine Nat.le_trans ?_ (Below.size (by with_reducible assumption))) | (with_reducible refine Nat.le_trans ?_ (sizeAlloc _ _)) | (with_reducible refine Nat.le_trans ?_ (sizeSet _ _ _)) | (with_reducible refine Nat.le_trans ?_ (sizeDrew _))))⟩
theorem Blk.apart {w w' : World} {g g' : Nat} {t : TypeId} {cs : Array Value} (h : Blk w g t cs) (hg : w.grownBy w' (some g')) (hne : g ≠ g') : Blk w' g t cs := (hg.block g h.lt (by simpa using hne)).trans h
set_option maxHeartbeats 4000000 in
theorem nm_walk (r : Ru) (size : Int) (w : World) : Calls Try.prog 3 #[.agg #[.int .i64 r.p, .int .i64 r.s, .bool r.st, .bool r.sk, .bool r.re, .bool r.fe, .bool r.ag, .int .i64 r.ca, .int .i64 r.sl], .int .i64 size] w fun e w' => e = .returned (.bool true) ∧ Below w.heap.size w w' := by
  obtain ⟨r2, n, code, hr⟩ : ∃ r2 n code, nmR r size = (r2, n, code) := ⟨_, _, _, rfl⟩
  have HR := Lib.hid hr
  clear hr
  have hcn : (code != code) = false := by simp
  go_enter Try.func3, Try.ntmps3
  go_wp2_with fail
  refine (toRules_any r _).mono ?_
  rintro e w1 ⟨rfl, hb1⟩
  have KA1 := Lib.hid ((Blk.new w 23 #[.int .i64 r.p, .int .i64 r.s, .bool r.st, .bool r.sk, .bool r.re, .bool r.fe, .bool r.ag, .int .i64 r.ca, .int .i64 r.sl]).later hb1)
  have B1 := below_boxed hb1
  have z1 : w.heap.size < w1.heap.size := KA1.out.lt
  clear hb1
  have cA1 := KA1.out.cell
  go_wp2_with fail
  refine (sNewMemory_any r r2 size code n HR.out _).mono ?_
  rintro e w2 ⟨A0, g0, rfl, hg0, hg0', o0, hn, hb2⟩
  have KA2 := Lib.hid (KA1.out.later hb2)
  have B2 := Below.via hb2 B1 B1.size
  have z2 := hb2.size
  clear cA1 KA1 hb2
  have cA2 := KA2.out.cell
  have lA2 := KA2.out.lt
  have O2 := Lib.hid o0
  clear o0
  go_wp2_with fail
  refine (toRules_any r _).mono ?_
  rintro e w3 ⟨rfl, hb3⟩
  have KA3 := Lib.hid (KA2.out.later (below_boxed hb3))
  have KB3 := Lib.hid ((Blk.new w2 27 #[.int .i64 r2.p, .int .i64 r2.s, .bool r2.st, .bool r2.sk, .bool r2.re, .bool r2.fe, .bool r2.ag, .int .i64 r2.ca, .int .i64 r2.sl, .slice A0 n n]).later hb3)
  have B3 := Below.via (below_boxed hb3) B2 B2.size
  have O3 := Lib.hid (O2.out.later (below_boxed hb3))
  have z3 : w2.heap.size < w3.heap.size := KB3.out.lt
  clear cA2 KA2 lA2 hb3 O2
  have cA3 := KA3.out.cell
  have cB3 := KB3.out.cell
  go_wp2_with fail
  refine (NewMemory_any r r2 size code n HR.out _).mono ?_
  rintro e w4 ⟨A1, g1, rfl, hg1, hg1', o1, _, hb4⟩
  have KA4 := Lib.hid (KA3.out.later hb4)
  have KB4 := Lib.hid (KB3.out.later hb4)
  have O4 := Lib.hid (O3.out.later hb4)
  have P4 := Lib.hid o1
  have B4 := Below.via hb4 B3 B3.size
  clear cA3 cB3 KA3 KB3 hb4 O3 o1
  have cA4 := KA4.out.cell
  have cB4 := KB4.out.cell
  have lA4 := KA4.out.lt
  have lB4 := KB4.out.lt
  go_wp2_with fail
  refine (eqMemory_same r2 A1 A0 n n n _ (P4.out.sl.boxed _) (O4.out.sl.boxed _) hn).mono ?_
  rintro e w5 ⟨rfl, hb5⟩
  have KA5 := Lib.hid (KA4.out.later (below_boxed hb5))
  have KB5 := Lib.hid (KB4.out.later (below_boxed hb5))
  have KC5 := Lib.hid ((Blk.new w4 27 #[.int .i64 r2.p, .int .i64 r2.s, .bool r2.st, .bool r2.sk, .bool r2.re, .bool r2.fe, .bool r2.ag, .int .i64 r2.ca, .int .i64 r2.sl, .slice A1 n n]).later hb5)
  have O5 := Lib.hid (O4.out.later (below_boxed hb5))
  have P5 := Lib.hid (P4.out.later (below_boxed hb5))
  have B5 := Below.via (below_boxed hb5) B4 B4.size
  clear cA4 cB4 KA4 KB4 hb5 lA4 lB4 O4 P4
  have cA5 := KA5.out.cell
  have cB5 := KB5.out.cell
  have cC5 := KC5.out.cell
  go_wp2_with fail
  refine (markMemory_any r2 A1 n n g1 1 _ P5.out hn (by omega) (by omega)).mono ?_
  rintro e w6 ⟨rfl, p6, hgr⟩
  have KA6 := Lib.hid (KA5.out.apart hgr (by omega))
  have KB6 := Lib.hid (KB5.out.apart hgr (by omega))
  have KC6 := Lib.hid (KC5.out.apart hgr (by omega))
  have O6 := Lib.hid (O5.out.apart hgr (fun _ => by omega))
  have P6 := Lib.hid p6
  have B6 : Below w.heap.size w w6 := grown_below B5 hgr (by omega) B5.size
  clear cA5 cB5 cC5 KA5 KB5 KC5 O5 P5 p6 hgr
  have cA6 := KA6.out.cell
  have cB6 := KB6.out.cell
  have cC6 := KC6.out.cell
  go_wp2_with fail
  refine (heldMemory_any r2 A1 n n 1 _ P6.out.sl hn (by omega) (by omega)).mono ?_
  rintro e w7 ⟨rfl, hb7⟩
  have KA7 := Lib.hid (KA6.out.later hb7)
  have KB7 := Lib.hid (KB6.out.later hb7)
  have KC7 := Lib.hid (KC6.out.later hb7)
  have O7 := Lib.hid (O6.out.later hb7)
  have P7 := Lib.hid (P6.out.later hb7)
  have B7 := Below.via hb7 B6 B6.size
  clear cA6 cB6 cC6 KA6 KB6 KC6 hb7 O6 P6
  have cA7 := KA7.out.cell
  have cB7 := KB7.out.cell
  have cC7 := KC7.out.cell
  go_wp2_with fail
  refine (toRules_any r _).mono ?_
  rintro e w8 ⟨rfl, hb8⟩
  have KB8 := Lib.hid (KB7.out.later hb8)
  have KC8 := Lib.hid (KC7.out.later hb8)
  have O8 := Lib.hid (O7.out.later hb8)
  have P8 := Lib.hid (P7.out.later hb8)
  have B8 := Below.via hb8 B7 B7.size
  clear cA7 cB7 cC7 KA7 KB7 KC7 hb8 O7 P7
  have cB8 := KB8.out.cell
  have cC8 := KC8.out.cell
  go_wp2_with fail
  refine (NewMemory_any r r2 size code n HR.out _).mono ?_
  rintro e w9 ⟨A2, g2, rfl, hg2, hg2', o2, _, hb9⟩
  have KB9 := Lib.hid (KB8.out.later hb9)
  have KC9 := Lib.hid (KC8.out.later hb9)
  have O9 := Lib.hid (O8.out.later hb9)
  have P9 := Lib.hid (P8.out.later hb9)
  have Q9 := Lib.hid o2
  have B9 := Below.via hb9 B8 B8.size
  clear cB8 cC8 KB8 KC8 hb9 O8 P8 o2
  have cB9 := KB9.out.cell
  have cC9 := KC9.out.cell
  have lB9 := KB9.out.lt
  have lC9 := KC9.out.lt
  go_wp2_with fail
  refine (eqMemory_same r2 A2 A0 n n n _ (Q9.out.sl.boxed _) (O9.out.sl.boxed _) hn).mono ?_
  rintro e w10 ⟨rfl, hb10⟩
  have KC10 := Lib.hid (KC9.out.later (below_boxed hb10))
  have P10 := Lib.hid (P9.out.later (below_boxed hb10))
  have B10 := Below.via (below_boxed hb10) B9 B9.size
  clear cB9 cC9 KB9 KC9 lB9 lC9 hb10 P9 O9 Q9
  have cC10 := KC10.out.cell
  go_wp2_with fail
  refine (heldMemory_any r2 A1 n n 1 _ P10.out.sl hn (by omega) (by omega)).mono ?_
  rintro e w11 ⟨rfl, hb11⟩
  have B11 := Below.via hb11 B10 B10.size
  go_wp2_with fail
  go_ret
  exact ⟨rfl, B11⟩
theorem nm_walk9 (p s : Int) (st sk re fe ag : Bool) (ca sl size : Int) (w : World) : Calls Try.prog 3 #[.agg #[.int .i64 p, .int .i64 s, .bool st, .bool sk, .bool re, .bool fe, .bool ag, .int .i64 ca, .int .i64 sl], .int .i64 size] w fun e w' => e = .returned (.bool true) ∧ Below w.heap.size w w' := nm_walk ⟨p, s, st, sk, re, fe, ag, ca, sl⟩ size w
end Go.Proofs.Ytpcenpedbdenmaa
