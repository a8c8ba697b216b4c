/- Books copied and compared. Conditions: lengths below 2^20. -/
import Derived.Test.YtpcenpedbdenmaaEnt3
import Derived.Test.YtpcenpedbdenmaaMem2
namespace Go.Proofs.Ytpcenpedbdenmaa
set_option linter.unusedSimpArgs false
set_option linter.unusedVariables false
open Go.RowKit Go.WideShapes Go.ChangeShapes Go.Deep

def ToBk (r : Ru) (n : Nat) (ss : List EntR) (w : World) (e : Ending) (w' : World) : Prop := ∃ g, e = .returned (.agg #[.int .i64 r.p, .int .i64 r.s, .bool r.st, .bool r.sk, .bool r.re, .bool r.fe, .bool r.ag, .int .i64 r.ca, .int .i64 r.sl, .slice (some ⟨g, 0, none⟩) n n]) ∧ w.heap.size ≤ g ∧ Ens w' w'.heap.size (some ⟨g, 0, none⟩) n ss ∧ Below w.heap.size w w'
set_option maxHeartbeats 2000000 in
theorem toBook_any (r : Ru) (A : Option Addr) (n c : Nat) (ss : List EntR) (w : World) (hs : Ens w w.heap.size A n ss) (hn : n + sumLen (lensE ss) n ≤ 1048576) :
    Calls Try.prog 39 #[.agg #[.int .i64 r.p, .int .i64 r.s, .bool r.st, .bool r.sk, .bool r.re, .bool r.fe, .bool r.ag, .int .i64 r.ca, .int .i64 r.sl, .slice A n c]] w (ToBk r n ss w) := by
  go_enter Try.func39, Try.ntmps39
  go_wp2_with fail
  refine (toRules_lit r _).mono ?_
  rintro e w1 ⟨rfl, rfl⟩
  go_wp2_with fail
  refine (toEnts_any A n c ss _ (hs.later (by (repeat' (first | (with_reducible exact Below.refl _ _) | (with_reducible assumption) | (with_reducible refine Below.alloc ?_ ?_ _) | (with_reducible refine Below.drew ?_) | (with_reducible refine belowDrewN ?_ _) | (with_reducible refine Below.setCell ?_ ?_ _) | (with_reducible refine Below.via (by with_reducible assumption) ?_ ?_) | (with_reducible refine Below.viaD (by with_reducible assumption) ?_ ?_) | (with_reducible exact Below.size (by with_reducible assumption)) | go_size | (with_reducible refine Nat.le_trans ?_ (Below.size (by with_reducible assumption))) | (with_reducible refine Nat.le_trans ?_ (sizeAlloc _ _)) | (with_reducible refine Nat.le_trans ?_ (sizeSet _ _ _)) | (with_reducible refine Nat.le_trans ?_ (sizeDrew _)))))) hn).mono ?_
  rintro e w2 ⟨g, rfl, hg, hs2, hb2⟩
  have hk1 : Blk w2 (w.heap.size + 1) 58 #[.int .i64 0, .int .i64 0, .bool false, .bool false, .bool false, .bool false, .bool false, .int .i64 0, .int .i64 0, .slice none 0 0] := Blk.later (Blk.later (Blk.new' (w := w.alloc (.cells #[.int .i64 r.p, .int .i64 r.s, .bool r.st, .bool r.sk, .bool r.re, .bool r.fe, .bool r.ag, .int .i64 r.ca, .int .i64 r.sl, .slice A n c] 66)) (by simp)) (by (repeat' (first | (with_reducible exact Below.refl _ _) | (with_reducible assumption) | (with_reducible refine Below.alloc ?_ ?_ _) | (with_reducible refine Below.drew ?_) | (with_reducible refine belowDrewN ?_ _) | (with_reducible refine Below.setCell ?_ ?_ _) | (with_reducible refine Below.via (by with_reducible assumption) ?_ ?_) | (with_reducible refine Below.viaD (by with_reducible assumption) ?_ ?_) | (with_reducible exact Below.size (by with_reducible assumption)) | go_size | (with_reducible refine Nat.le_trans ?_ (Below.size (by with_reducible assumption))) | (with_reducible refine Nat.le_trans ?_ (sizeAlloc _ _)) | (with_reducible refine Nat.le_trans ?_ (sizeSet _ _ _)) | (with_reducible refine Nat.le_trans ?_ (sizeDrew _)))))) hb2
  have hk2 : Blk w2 (w.heap.size + 1 + 1) 58 #[.int .i64 r.p, .int .i64 r.s, .bool r.st, .bool r.sk, .bool r.re, .bool r.fe, .bool r.ag, .int .i64 r.ca, .int .i64 r.sl, .slice none 0 0] := Blk.later (Blk.later (Blk.new' (w := (w.alloc (.cells #[.int .i64 r.p, .int .i64 r.s, .bool r.st, .bool r.sk, .bool r.re, .bool r.fe, .bool r.ag, .int .i64 r.ca, .int .i64 r.sl, .slice A n c] 66)).alloc (.cells #[.int .i64 0, .int .i64 0, .bool false, .bool false, .bool false, .bool false, .bool false, .int .i64 0, .int .i64 0, .slice none 0 0] 58)) (by simp)) (by (repeat' (first | (with_reducible exact Below.refl _ _) | (with_reducible assumption) | (with_reducible refine Below.alloc ?_ ?_ _) | (with_reducible refine Below.drew ?_) | (with_reducible refine belowDrewN ?_ _) | (with_reducible refine Below.setCell ?_ ?_ _) | (with_reducible refine Below.via (by with_reducible assumption) ?_ ?_) | (with_reducible refine Below.viaD (by with_reducible assumption) ?_ ?_) | (with_reducible exact Below.size (by with_reducible assumption)) | go_size | (with_reducible refine Nat.le_trans ?_ (Below.size (by with_reducible assumption))) | (with_reducible refine Nat.le_trans ?_ (sizeAlloc _ _)) | (with_reducible refine Nat.le_trans ?_ (sizeSet _ _ _)) | (with_reducible refine Nat.le_trans ?_ (sizeDrew _)))))) hb2
  have hbw : Below w.heap.size w w2 := by (repeat' (first | (with_reducible exact Below.refl _ _) | (with_reducible assumption) | (with_reducible refine Below.alloc ?_ ?_ _) | (with_reducible refine Below.drew ?_) | (with_reducible refine belowDrewN ?_ _) | (with_reducible refine Below.setCell ?_ ?_ _) | (with_reducible refine Below.via (by with_reducible assumption) ?_ ?_) | (with_reducible refine Below.viaD (by with_reducible assumption) ?_ ?_) | (with_reducible exact Below.size (by with_reducible assumption)) | go_size | (with_reducible refine Nat.le_trans ?_ (Below.size (by with_reducible assumption))) | (with_reducible refine Nat.le_trans ?_ (sizeAlloc _ _)) | (with_reducible refine Nat.le_trans ?_ (sizeSet _ _ _)) | (with_reducible refine Nat.le_trans ?_ (sizeDrew _))))
  have hl1 := hk1.lt
  have hl2 := hk2.lt
  have hg1 : w.heap.size ≤ g := by simp at hg; omega
  have hs3 := Lib.hid hs2
  have e0 : w2.cell? ⟨w.heap.size + 1, 0, none⟩ = some (.int .i64 0) := hk1.cell 0
  have x0 : w2.cell? ⟨w.heap.size + 1 + 1, 0, none⟩ = some (.int .i64 r.p) := hk2.cell 0
  have e1 : w2.cell? ⟨w.heap.size + 1, 1, none⟩ = some (.int .i64 0) := hk1.cell 1
  have x1 : w2.cell? ⟨w.heap.size + 1 + 1, 1, none⟩ = some (.int .i64 r.s) := hk2.cell 1
  have e2 : w2.cell? ⟨w.heap.size + 1, 2, none⟩ = some (.bool false) := hk1.cell 2
  have x2 : w2.cell? ⟨w.heap.size + 1 + 1, 2, none⟩ = some (.bool r.st) := hk2.cell 2
  have e3 : w2.cell? ⟨w.heap.size + 1, 3, none⟩ = some (.bool false) := hk1.cell 3
  have x3 : w2.cell? ⟨w.heap.size + 1 + 1, 3, none⟩ = some (.bool r.sk) := hk2.cell 3
  have e4 : w2.cell? ⟨w.heap.size + 1, 4, none⟩ = some (.bool false) := hk1.cell 4
  have x4 : w2.cell? ⟨w.heap.size + 1 + 1, 4, none⟩ = some (.bool r.re) := hk2.cell 4
  have e5 : w2.cell? ⟨w.heap.size + 1, 5, none⟩ = some (.bool false) := hk1.cell 5
  have x5 : w2.cell? ⟨w.heap.size + 1 + 1, 5, none⟩ = some (.bool r.fe) := hk2.cell 5
  have e6 : w2.cell? ⟨w.heap.size + 1, 6, none⟩ = some (.bool false) := hk1.cell 6
  have x6 : w2.cell? ⟨w.heap.size + 1 + 1, 6, none⟩ = some (.bool r.ag) := hk2.cell 6
  have e7 : w2.cell? ⟨w.heap.size + 1, 7, none⟩ = some (.int .i64 0) := hk1.cell 7
  have x7 : w2.cell? ⟨w.heap.size + 1 + 1, 7, none⟩ = some (.int .i64 r.ca) := hk2.cell 7
  have e8 : w2.cell? ⟨w.heap.size + 1, 8, none⟩ = some (.int .i64 0) := hk1.cell 8
  have x8 : w2.cell? ⟨w.heap.size + 1 + 1, 8, none⟩ = some (.int .i64 r.sl) := hk2.cell 8
  have e9 : w2.cell? ⟨w.heap.size + 1, 9, none⟩ = some (.slice none 0 0) := hk1.cell 9
  have x9 : w2.cell? ⟨w.heap.size + 1 + 1, 9, none⟩ = some (.slice none 0 0) := hk2.cell 9
  have hf1 := hk1.free
  have hf2 := hk2.free
  have hq := res10_cells (hk1.far (p := ⟨w.heap.size + 1 + 1, 9, none⟩) (by show w.heap.size + 1 + 1 ≠ _; omega) (.slice (some ⟨g, 0, none⟩) n n))
  have HK1 := Lib.hid hk1
  have HK2 := Lib.hid hk2
  clear hb2 hg hk1 hk2 hs2 hs
  go_wp2_with fail
  (try simp only [Exit.inBlock, Exit.then])
  refine bodyPost_ret (by simp [results, Try.results39, go_sem, hq]; try rfl) rfl ?_
  refine ⟨g, rfl, hg1, hs3.out _ (by simp) (fun b o hb _ => ?_), by (repeat' (first | (with_reducible exact Below.refl _ _) | (with_reducible assumption) | (with_reducible refine Below.alloc ?_ ?_ _) | (with_reducible refine Below.drew ?_) | (with_reducible refine belowDrewN ?_ _) | (with_reducible refine Below.setCell ?_ ?_ _) | (with_reducible refine Below.via (by with_reducible assumption) ?_ ?_) | (with_reducible refine Below.viaD (by with_reducible assumption) ?_ ?_) | (with_reducible exact Below.size (by with_reducible assumption)) | go_size | (with_reducible refine Nat.le_trans ?_ (Below.size (by with_reducible assumption))) | (with_reducible refine Nat.le_trans ?_ (sizeAlloc _ _)) | (with_reducible refine Nat.le_trans ?_ (sizeSet _ _ _)) | (with_reducible refine Nat.le_trans ?_ (sizeDrew _))))⟩
  have hb5 : w.heap.size + 6 ≤ b := by simp at hb; omega
  repeat (rw [World.cell?_setCell_other _ _ _ _ (fun he => by have h := congrArg Addr.block he; simp at h; omega)])
set_option maxHeartbeats 1000000 in
theorem eqEnt_same (A A' A2 A2' : Option Addr) (m c c' m2 c2 c2' : Nat) (ps cs : List Int) (w : World) (hs : Sl w w.heap.size 1 A m (ps.map (Value.int .i64))) (hs' : Sl w w.heap.size 1 A' m (ps.map (Value.int .i64))) (ht : Sl w w.heap.size 3 A2 m2 (cs.map (Value.int .i64))) (ht' : Sl w w.heap.size 3 A2' m2 (cs.map (Value.int .i64))) (hm : m ≤ 9223372036854775807) (hm2 : m2 ≤ 9223372036854775807) :
    Calls Try.prog 84 #[.agg #[.slice A m c, .slice A2 m2 c2], .agg #[.slice A' m c', .slice A2' m2 c2']] w fun e w' => e = .returned (.bool true) ∧ Below w.heap.size w w' := by
  have HT := Lib.hid ht
  have HT' := Lib.hid ht'
  have hq : (ps == ps) = true := by simp
  have he := eqL_self cs
  have HQ := Lib.hid hq
  have HE := Lib.hid he
  clear hq he ht ht'
  go_enter Try.func84, Try.ntmps84
  go_wp2_with fail
  refine (eqInt64S_any A A' m m c c' ps ps _ (hs.later (by (repeat' (first | (with_reducible exact Below.refl _ _) | (with_reducible assumption) | (with_reducible refine Below.alloc ?_ ?_ _) | (with_reducible refine Below.drew ?_) | (with_reducible refine belowDrewN ?_ _) | (with_reducible refine Below.setCell ?_ ?_ _) | (with_reducible refine Below.via (by with_reducible assumption) ?_ ?_) | (with_reducible refine Below.viaD (by with_reducible assumption) ?_ ?_) | (with_reducible exact Below.size (by with_reducible assumption)) | go_size | (with_reducible refine Nat.le_trans ?_ (Below.size (by with_reducible assumption))) | (with_reducible refine Nat.le_trans ?_ (sizeAlloc _ _)) | (with_reducible refine Nat.le_trans ?_ (sizeSet _ _ _)) | (with_reducible refine Nat.le_trans ?_ (sizeDrew _)))))) (hs'.later (by (repeat' (first | (with_reducible exact Below.refl _ _) | (with_reducible assumption) | (with_reducible refine Below.alloc ?_ ?_ _) | (with_reducible refine Below.drew ?_) | (with_reducible refine belowDrewN ?_ _) | (with_reducible refine Below.setCell ?_ ?_ _) | (with_reducible refine Below.via (by with_reducible assumption) ?_ ?_) | (with_reducible refine Below.viaD (by with_reducible assumption) ?_ ?_) | (with_reducible exact Below.size (by with_reducible assumption)) | go_size | (with_reducible refine Nat.le_trans ?_ (Below.size (by with_reducible assumption))) | (with_reducible refine Nat.le_trans ?_ (sizeAlloc _ _)) | (with_reducible refine Nat.le_trans ?_ (sizeSet _ _ _)) | (with_reducible refine Nat.le_trans ?_ (sizeDrew _)))))) hm hm).mono ?_
  rintro e w1 ⟨rfl, hb1⟩
  obtain ⟨hc1, hf1, hl1, hz1⟩ := bfacts hb1
  rw [HQ.out]
  go_wp2_with fail
  refine (eqChoiceS_any A2 A2' m2 m2 c2 c2' cs cs _ (HT.out.later (by (repeat' (first | (with_reducible exact Below.refl _ _) | (with_reducible assumption) | (with_reducible refine Below.alloc ?_ ?_ _) | (with_reducible refine Below.drew ?_) | (with_reducible refine belowDrewN ?_ _) | (with_reducible refine Below.setCell ?_ ?_ _) | (with_reducible refine Below.via (by with_reducible assumption) ?_ ?_) | (with_reducible refine Below.viaD (by with_reducible assumption) ?_ ?_) | (with_reducible exact Below.size (by with_reducible assumption)) | go_size | (with_reducible refine Nat.le_trans ?_ (Below.size (by with_reducible assumption))) | (with_reducible refine Nat.le_trans ?_ (sizeAlloc _ _)) | (with_reducible refine Nat.le_trans ?_ (sizeSet _ _ _)) | (with_reducible refine Nat.le_trans ?_ (sizeDrew _)))))) (HT'.out.later (by (repeat' (first | (with_reducible exact Below.refl _ _) | (with_reducible assumption) | (with_reducible refine Below.alloc ?_ ?_ _) | (with_reducible refine Below.drew ?_) | (with_reducible refine belowDrewN ?_ _) | (with_reducible refine Below.setCell ?_ ?_ _) | (with_reducible refine Below.via (by with_reducible assumption) ?_ ?_) | (with_reducible refine Below.viaD (by with_reducible assumption) ?_ ?_) | (with_reducible exact Below.size (by with_reducible assumption)) | go_size | (with_reducible refine Nat.le_trans ?_ (Below.size (by with_reducible assumption))) | (with_reducible refine Nat.le_trans ?_ (sizeAlloc _ _)) | (with_reducible refine Nat.le_trans ?_ (sizeSet _ _ _)) | (with_reducible refine Nat.le_trans ?_ (sizeDrew _)))))) hm2 hm2).mono ?_
  rintro e w2 ⟨rfl, hb2⟩
  rw [HE.out]
  go_wp2_with fail
  go_ret
  exact ⟨rfl, by (repeat' (first | (with_reducible exact Below.refl _ _) | (with_reducible assumption) | (with_reducible refine Below.alloc ?_ ?_ _) | (with_reducible refine Below.drew ?_) | (with_reducible refine belowDrewN ?_ _) | (with_reducible refine Below.setCell ?_ ?_ _) | (with_reducible refine Below.via (by with_reducible assumption) ?_ ?_) | (with_reducible refine Below.viaD (by with_reducible assumption) ?_ ?_) | (with_reducible exact Below.size (by with_reducible assumption)) | go_size | (with_reducible refine Nat.le_trans ?_ (Below.size (by with_reducible assumption))) | (with_reducible refine Nat.le_trans ?_ (sizeAlloc _ _)) | (with_reducible refine Nat.le_trans ?_ (sizeSet _ _ _)) | (with_reducible refine Nat.le_trans ?_ (sizeDrew _))))⟩
set_option maxHeartbeats 1000000 in
theorem eqEnts_same (A A' : Option Addr) (n c c' : Nat) (es : List EntR) (w : World) (hs : Ens w w.heap.size A n es) (hs' : Ens w w.heap.size A' n es) (hn : n ≤ 9223372036854775807) :
    Calls Try.prog 64 #[.slice A n c, .slice A' n c'] w fun e w' => e = .returned (.bool true) ∧ Below w.heap.size w w' := by
  go_enter Try.func64, Try.ntmps64
  go_wp2
  go_loopw [5] (fun i wr => ∃ k : Nat, k ≤ n ∧ i = .int .i64 k ∧ Below w.heap.size w wr) (fun i _ => n - (intOf i).toNat)
  case atStart => exact ⟨0, Nat.zero_le _, rfl, by (repeat' (first | (with_reducible exact Below.refl _ _) | (with_reducible assumption) | (with_reducible refine Below.alloc ?_ ?_ _) | (with_reducible refine Below.drew ?_) | (with_reducible refine belowDrewN ?_ _) | (with_reducible refine Below.setCell ?_ ?_ _) | (with_reducible refine Below.via (by with_reducible assumption) ?_ ?_) | (with_reducible refine Below.viaD (by with_reducible assumption) ?_ ?_) | (with_reducible exact Below.size (by with_reducible assumption)) | go_size | (with_reducible refine Nat.le_trans ?_ (Below.size (by with_reducible assumption))) | (with_reducible refine Nat.le_trans ?_ (sizeAlloc _ _)) | (with_reducible refine Nat.le_trans ?_ (sizeSet _ _ _)) | (with_reducible refine Nat.le_trans ?_ (sizeDrew _))))⟩
  case round =>
    obtain ⟨k, hk, rfl, hbl⟩ := hrel
    have hbs := hbl.size
    by_cases hlt : k < n
    · obtain ⟨b, off, ps, cs, A1, m, c1, A2, m2, c2, rfl, hb', HL, x0, x1, hsl, ht, hm, hm2⟩ := (hs.below hbl).row hlt
      obtain ⟨b2, off2, ps', cs', A1', m', c1', A2', m2', c2', rfl, hb2', HL2, y0, y1, hsl2, ht2, hm', hm2'⟩ := (hs'.below hbl).row hlt
      obtain ⟨rfl, rfl⟩ : ps = ps' ∧ cs = cs' := by
        have h := HL.out.symm.trans HL2.out
        injection h with h1 h2
        exact ⟨h1, h2⟩
      obtain rfl : m = m' := hsl.ints.symm.trans hsl2.ints
      obtain rfl : m2 = m2' := by have h1 := ht.cnt; have h2 := ht2.cnt; omega
      have S1 := Lib.hid (hsl.mono hbs)
      have S2 := Lib.hid (hsl2.mono hbs)
      have T1 := Lib.hid (ht.mono hbs)
      have T2 := Lib.hid (ht2.mono hbs)
      clear hsl hsl2 ht ht2
      go_wp2_with fail
      go_region_with (go_at_call 84; refine (eqEnt_same _ _ _ _ _ _ _ _ _ _ ps cs _ ?_ ?_ ?_ ?_ hm hm2).mono ?_; (first | exact S1.out | exact S1.out.drew | exact S1.out.drewN _); (first | exact S2.out | exact S2.out.drew | exact S2.out.drewN _); (first | exact T1.out | exact T1.out.drew | exact T1.out.drewN _); (first | exact T2.out | exact T2.out.drew | exact T2.out.drewN _); rintro e w1 ⟨rfl, hb1⟩; have hbu := Below.undrew hb1)
      all_goals
        go_wp2_with fail
        go_roundw
        case rel => exact ⟨k + 1, by omega, by go_num, by (repeat' (first | (with_reducible exact Below.refl _ _) | (with_reducible assumption) | (with_reducible refine Below.alloc ?_ ?_ _) | (with_reducible refine Below.drew ?_) | (with_reducible refine belowDrewN ?_ _) | (with_reducible refine Below.setCell ?_ ?_ _) | (with_reducible refine Below.via (by with_reducible assumption) ?_ ?_) | (with_reducible refine Below.viaD (by with_reducible assumption) ?_ ?_) | (with_reducible exact Below.size (by with_reducible assumption)) | go_size | (with_reducible refine Nat.le_trans ?_ (Below.size (by with_reducible assumption))) | (with_reducible refine Nat.le_trans ?_ (sizeAlloc _ _)) | (with_reducible refine Nat.le_trans ?_ (sizeSet _ _ _)) | (with_reducible refine Nat.le_trans ?_ (sizeDrew _))))⟩
        case measure => first | (simp [intOf]; done) | (simp [intOf]; omega)
    · obtain rfl : k = n := by omega
      go_wp2
      go_ret
      exact ⟨rfl, hbl⟩
set_option maxHeartbeats 1000000 in
theorem eqBk_same (r : Ru) (A A' : Option Addr) (n c c' : Nat) (es : List EntR) (w : World) (hs : Ens w w.heap.size A n es) (hs' : Ens w w.heap.size A' n es) (hn : n ≤ 9223372036854775807) :
    Calls Try.prog 34 #[.agg #[.int .i64 r.p, .int .i64 r.s, .bool r.st, .bool r.sk, .bool r.re, .bool r.fe, .bool r.ag, .int .i64 r.ca, .int .i64 r.sl, .slice A n c], .agg #[.int .i64 r.p, .int .i64 r.s, .bool r.st, .bool r.sk, .bool r.re, .bool r.fe, .bool r.ag, .int .i64 r.ca, .int .i64 r.sl, .slice A' n c']] w fun e w' => e = .returned (.bool true) ∧ Below w.heap.size w w' := by
  go_enter Try.func34, Try.ntmps34
  go_wp2_with fail
  refine (eqRules_same r _).mono ?_
  rintro e w1 ⟨rfl, hb1⟩
  obtain ⟨hc1, hf1, hl1, hz1⟩ := bfacts hb1
  go_wp2_with fail
  refine (eqEnts_same A A' n c c' es _ (hs.later (by (repeat' (first | (with_reducible exact Below.refl _ _) | (with_reducible assumption) | (with_reducible refine Below.alloc ?_ ?_ _) | (with_reducible refine Below.drew ?_) | (with_reducible refine belowDrewN ?_ _) | (with_reducible refine Below.setCell ?_ ?_ _) | (with_reducible refine Below.via (by with_reducible assumption) ?_ ?_) | (with_reducible refine Below.viaD (by with_reducible assumption) ?_ ?_) | (with_reducible exact Below.size (by with_reducible assumption)) | go_size | (with_reducible refine Nat.le_trans ?_ (Below.size (by with_reducible assumption))) | (with_reducible refine Nat.le_trans ?_ (sizeAlloc _ _)) | (with_reducible refine Nat.le_trans ?_ (sizeSet _ _ _)) | (with_reducible refine Nat.le_trans ?_ (sizeDrew _)))))) (hs'.later (by (repeat' (first | (with_reducible exact Below.refl _ _) | (with_reducible assumption) | (with_reducible refine Below.alloc ?_ ?_ _) | (with_reducible refine Below.drew ?_) | (with_reducible refine belowDrewN ?_ _) | (with_reducible refine Below.setCell ?_ ?_ _) | (with_reducible refine Below.via (by with_reducible assumption) ?_ ?_) | (with_reducible refine Below.viaD (by with_reducible assumption) ?_ ?_) | (with_reducible exact Below.size (by with_reducible assumption)) | go_size | (with_reducible refine Nat.le_trans ?_ (Below.size (by with_reducible assumption))) | (with_reducible refine Nat.le_trans ?_ (sizeAlloc _ _)) | (with_reducible refine Nat.le_trans ?_ (sizeSet _ _ _)) | (with_reducible refine Nat.le_trans ?_ (sizeDrew _)))))) hn).mono ?_
  rintro e w2 ⟨rfl, hb2⟩
  go_wp2_with fail
  go_ret
  exact ⟨rfl, by (repeat' (first | (with_reducible exact Below.refl _ _) | (with_reducible assumption) | (with_reducible refine Below.alloc ?_ ?_ _) | (with_reducible refine Below.drew ?_) | (with_reducible refine belowDrewN ?_ _) | (with_reducible refine Below.setCell ?_ ?_ _) | (with_reducible refine Below.via (by with_reducible assumption) ?_ ?_) | (with_reducible refine Below.viaD (by with_reducible assumption) ?_ ?_) | (with_reducible exact Below.size (by with_reducible assumption)) | go_size | (with_reducible refine Nat.le_trans ?_ (Below.size (by with_reducible assumption))) | (with_reducible refine Nat.le_trans ?_ (sizeAlloc _ _)) | (with_reducible refine Nat.le_trans ?_ (sizeSet _ _ _)) | (with_reducible refine Nat.le_trans ?_ (sizeDrew _))))⟩
theorem XBook.later {w w' : World} {cs : List Value} {d : BookD} (h : XBook w cs d) (hb : Below w.heap.size w w') : XBook w' cs d := by
  obtain ⟨A, n, c, e, s, l⟩ := h
  exact ⟨A, n, c, e, s.later hb, l⟩
theorem XBook.drewN {w : World} {cs : List Value} {d : BookD} (h : XBook w cs d) (k : Nat) : XBook (w.drewN k) cs d := by
  obtain ⟨A, n, c, e, s, l⟩ := h
  exact ⟨A, n, c, e, s.drewN k, l⟩
theorem XBook.drew {w : World} {cs : List Value} {d : BookD} (h : XBook w cs d) : XBook w.drew cs d := h.drewN 1
theorem XBook.boxed {w : World} {cs : List Value} {d : BookD} (h : XBook w cs d) (o : Obj) : XBook (w.alloc o) cs d := h.later (boxed_ w o)
theorem XBook.len {w : World} {cs : List Value} {d : BookD} (h : XBook w cs d) : cs.length = 10 := by
  obtain ⟨A, n, c, e, s, l⟩ := h
  rw [e]; rfl
def szBook (d : BookD) : Nat := d.es.length + sumLen (lensE d.es) d.es.length
theorem szBook_le (cs : List Value) (d : BookD) (left : Int) (w : World) (h : XBook w cs d) (h1 : (szBook d : Int) ≤ left) (h2 : left ≤ 1048576) : Calls Try.prog 37 #[.agg cs.toArray, .int .i64 left] w fun e w' => e = .returned (.int .i64 (left - (szBook d : Nat))) ∧ Below w.heap.size w w' := by
  obtain ⟨A, n, c, rfl, s, l⟩ := h
  obtain rfl : d.es.length = n := s.len
  refine (szBook_any d.r A d.es.length c d.es left w s l h2 (by omega)).mono ?_
  rintro e w' ⟨rfl, hb⟩
  refine ⟨?_, hb⟩
  rw [SzR, if_pos (by unfold szBook at h1; exact h1)]
  rfl
theorem szBook_gt (cs : List Value) (d : BookD) (left : Int) (w : World) (h : XBook w cs d) (h1 : left < (szBook d : Int)) (h0 : 0 ≤ left) (h2 : left ≤ 1048576) : Calls Try.prog 37 #[.agg cs.toArray, .int .i64 left] w fun e w' => e = .returned (.int .i64 (-1)) ∧ Below w.heap.size w w' := by
  obtain ⟨A, n, c, rfl, s, l⟩ := h
  obtain rfl : d.es.length = n := s.len
  refine (szBook_any d.r A d.es.length c d.es left w s l h2 h0).mono ?_
  rintro e w' ⟨rfl, hb⟩
  refine ⟨?_, hb⟩
  rw [SzR, if_neg (by unfold szBook at h1; omega)]
def ToBookX (d : BookD) (w : World) (e : Ending) (w' : World) : Prop := ∃ cs, e = .returned (.agg cs.toArray) ∧ XBook w' cs d ∧ Below w.heap.size w w'
theorem toBook_x (cs : List Value) (d : BookD) (w : World) (h : XBook w cs d) (hn : szBook d ≤ 1048576) : Calls Try.prog 39 #[.agg cs.toArray] w (ToBookX d w) := by
  obtain ⟨A, n, c, rfl, s, l⟩ := h
  obtain rfl : d.es.length = n := s.len
  refine (toBook_any d.r A d.es.length c d.es w s hn).mono ?_
  rintro e w' ⟨g, rfl, hg, s', hb⟩
  exact ⟨[.int .i64 d.r.p, .int .i64 d.r.s, .bool d.r.st, .bool d.r.sk, .bool d.r.re, .bool d.r.fe, .bool d.r.ag, .int .i64 d.r.ca, .int .i64 d.r.sl, .slice (some ⟨g, 0, none⟩) d.es.length d.es.length], rfl, ⟨_, _, _, rfl, s', l⟩, hb⟩
theorem eqBook_x (cs cs' : List Value) (d : BookD) (w : World) (h : XBook w cs d) (h' : XBook w cs' d) : Calls Try.prog 34 #[.agg cs.toArray, .agg cs'.toArray] w fun e w' => e = .returned (.bool true) ∧ Below w.heap.size w w' := by
  obtain ⟨A, n, c, rfl, s, l⟩ := h
  obtain ⟨A', n', c', rfl, s', l'⟩ := h'
  obtain rfl : n = n' := s.len.symm.trans s'.len
  exact eqBk_same d.r A A' n c c' d.es w s s' l
end Go.Proofs.Ytpcenpedbdenmaa
