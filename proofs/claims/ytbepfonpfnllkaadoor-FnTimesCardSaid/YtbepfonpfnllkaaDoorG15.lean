/- FnTimes: a clock that is used, started, pressed, stopped by the reference. Conditions: times of two players. -/
import Derived.Test.YtbepfonpfnllkaaDoorG14
namespace Go.Proofs.YtbepfonpfnllkaaDoor
set_option linter.unusedSimpArgs false
set_option linter.unusedVariables false
open Go.RowKit Go.WideShapes Go.ChangeShapes

/-- Some clock's value of one's own. -/
def AnC (t : TypeId) (n : Nat) (w : World) (e : Ending) (w' : World) : Prop :=
  ∃ (zs : List Int) (inc del pl si : Int) (ru fa : Bool), OwC t n zs inc del pl si ru fa w e w'
/-- Some clock's value of one's own, and a code. -/
def AnK (t : TypeId) (w : World) (e : Ending) (w' : World) : Prop :=
  ∃ (A' : Option Addr) (g n cp' : Nat) (zs : List Int) (inc del pl si : Int) (ru fa : Bool) (code : Int), e = .returned (.tuple #[.agg #[.slice A' n cp', .int .i64 inc, .int .i64 del, .int .i64 pl, .int .i64 si, .bool ru, .bool fa], .int .i64 code]) ∧ (code = 0 → n = 2) ∧ w.heap.size ≤ g ∧ n ≤ cp' ∧ OwnV w' g t 1 A' n (zs.map (Value.int .i64)) ∧ Below w.heap.size w w'
theorem own_set2 {w : World} {g : Nat} {t : TypeId} {A : Option Addr} {z0 z1 x : Int} {k : Nat} (hA : A = some ⟨g, 0, none⟩) (h : OwnV w g t 1 A 2 ([z0, z1].map (Value.int .i64))) (hk : k < 2) : ∃ zs : List Int, zs.length = 2 ∧ OwnV (w.setCell ⟨g, k, none⟩ (.int .i64 x)) g t 1 A 2 (zs.map (Value.int .i64)) := by
  obtain ⟨_, rest, hb⟩ := h.blk (by omega)
  rcases (show k = 0 ∨ k = 1 by omega) with rfl | rfl
  · exact ⟨[x, z1], rfl, ⟨rfl, fun _ => ⟨hA, rest, by have := hb.set 0 (.int .i64 x); simpa using this⟩⟩⟩
  · exact ⟨[z0, x], rfl, ⟨rfl, fun _ => ⟨hA, rest, by have := hb.set 1 (.int .i64 x); simpa using this⟩⟩⟩
theorem own_setF {w : World} {g g' o n : Nat} {t : TypeId} {A : Option Addr} {vs : List Value} {u : Value} (h : OwnV w g t 1 A n vs) (hne : g ≠ g') : OwnV (w.setCell ⟨g', o, none⟩ u) g t 1 A n vs :=
  ⟨h.len, fun hn => ⟨(h.blk hn).1, (h.blk hn).2.elim fun rest hb => ⟨rest, blk_setF hb hne⟩⟩⟩
theorem own_drF {w : World} {g n : Nat} {t : TypeId} {A : Option Addr} {vs : List Value} (h : OwnV w g t 1 A n vs) : OwnV w.drew g t 1 A n vs := ⟨h.len, h.blk⟩
set_option maxRecDepth 20000 in
set_option maxHeartbeats 2000000 in
theorem l23Use_any (A : Option Addr) (c : Nat) (z0 z1 inc del pl si : Int) (ru fa : Bool) (b0 : Nat) (now : Int) (w : World) (hs : Sl w w.heap.size 1 A 2 ([z0, z1].map (Value.int .i64))) (hB : Blk w b0 33 #[.slice A 2 c, .int .i64 inc, .int .i64 del, .int .i64 pl, .int .i64 si, .bool ru, .bool fa]) (hpl : pl = 0 ∨ pl = 1) :
    Calls Tryd.prog 53 #[.pointer (some ⟨b0, 0, none⟩), .int .i64 now] w (AnC 2 2 w) := by
  have R0 := Lib.hid (Blk.new w 33 #[.slice none 0 0, .int .i64 0, .int .i64 0, .int .i64 0, .int .i64 0, .bool false, .bool false])
  have BA := Lib.hid (Below.alloc (Below.refl w.heap.size w) (Nat.le_refl _) (.cells #[.slice none 0 0, .int .i64 0, .int .i64 0, .int .i64 0, .int .i64 0, .bool false, .bool false] 33))
  have hbl := hB.lt
  have HB := Lib.hid (hB.later BA.out)
  have HS := Lib.hid (hs.later BA.out)
  have hz0 := BA.out.size
  have hzA : (w.alloc (.cells #[.slice none 0 0, .int .i64 0, .int .i64 0, .int .i64 0, .int .i64 0, .bool false, .bool false] 33)).heap.size = w.heap.size + 1 := by simp
  clear hs hB
  go_enter Tryd.func53, Tryd.ntmps53
  go_wp2_with fail
  refine (l23Own_any A 2 c [z0, z1] inc del pl si ru fa b0 _ HS.out HB.out (by omega)).mono ?_
  rintro e w1 ⟨A1, g1, cp1, rfl, hg1, hcp1, ho1, hb1⟩
  obtain ⟨rfl, -, -⟩ := ho1.blk (by omega)
  have N1 : Hid (Below w1.heap.size w1 (w1.alloc (.cells #[.slice (some ⟨g1, 0, none⟩) 2 cp1, .int .i64 inc, .int .i64 del, .int .i64 pl, .int .i64 si, .bool ru, .bool fa] 33))) := Below.alloc (Below.refl _ _) (Nat.le_refl _) _
  have X1 := Lib.hid (Blk.new w1 33 #[.slice (some ⟨g1, 0, none⟩) 2 cp1, .int .i64 inc, .int .i64 del, .int .i64 pl, .int .i64 si, .bool ru, .bool fa])
  have R1 := Lib.hid ((R0.out.later hb1).later N1.out)
  have HB1 := Lib.hid ((HB.out.later hb1).later N1.out)
  have HS1 := Lib.hid ((HS.out.later hb1).later N1.out)
  have O1 := Lib.hid (ho1.later N1.out)
  have B1 := Lib.hid (Below.via N1.out (Below.via hb1 BA.out hz0) (Nat.le_trans hz0 hb1.size))
  have hg1l := ho1.lt (by omega)
  have hzz := hb1.size
  clear ho1 hb1
  go_wp2_with fail
  refine (l23Left_ex A c z0 z1 inc del pl si ru fa b0 now _ HS1.out HB1.out hpl).mono ?_
  rintro e w2 ⟨⟨v, rfl⟩, hb2⟩
  have X2 := Lib.hid (X1.out.later hb2)
  have R2 := Lib.hid (R1.out.later hb2)
  have HB2 := Lib.hid (HB1.out.later hb2)
  have O2 := Lib.hid (O1.out.later hb2)
  have B2 := Lib.hid (Below.via hb2 B1.out B1.out.size)
  clear hb2
  obtain ⟨⟨x0, x1, x2, x3, x4, x5, x6⟩, ⟨y0, y1, y2, y3, y4, y5, y6⟩, hxl⟩ := blk7 X2.out
  obtain ⟨⟨r0, r1, r2, r3, r4, r5, r6⟩, ⟨f0, f1, f2, f3, f4, f5, f6⟩, hrl⟩ := blk7 R2.out
  obtain ⟨⟨p0, p1, p2, p3, p4, p5, p6⟩, _, hpl2⟩ := blk7 HB2.out
  obtain ⟨_, rest, hk⟩ := O2.out.blk (by omega)
  have t0 := hk.cell 0
  have t1 := hk.cell 1
  have u0 := hk.free 0
  have u1 := hk.free 1
  have hkl := hk.lt
  have hne1 : g1 ≠ w1.heap.size := by omega
  have hne2 : g1 ≠ w.heap.size := by omega
  have hne3 : w1.heap.size ≠ w.heap.size := by omega
  clear hk
  by_cases hv : v = 0
  case pos =>
    subst hv
    rcases hpl with rfl | rfl
    · obtain ⟨zs, hzs, HO⟩ := own_set2 (x := 0) (k := 0) rfl O2.out (by omega)
      have HO := Lib.hid HO
      go_wp2_with fail
      go_region
      go_wp2_with fail
      (try simp only [Exit.inBlock, Exit.then])
      refine bodyPost_ret (by simp [results, Tryd.results53, go_sem, r0, r1, r2, r3, r4, r5, r6, f0, f1, f2, f3, f4, f5, f6]; try rfl) rfl ?_
      refine ⟨zs, inc, del, _, _, _, _, _, g1, cp1, rfl, by omega, hcp1, ?_, ?_⟩
      · (repeat (first | (with_reducible refine own_drF ?_) | (with_reducible refine own_setF ?_ hne1) | (with_reducible refine own_setF ?_ hne2))); with_reducible exact HO.out
      · (repeat (first | (with_reducible refine Below.drew ?_) | (with_reducible refine Below.setCell ?_ (by dsimp only; omega) _))); with_reducible exact B2.out
    · obtain ⟨zs, hzs, HO⟩ := own_set2 (x := 0) (k := 1) rfl O2.out (by omega)
      have HO := Lib.hid HO
      go_wp2_with fail
      go_region
      go_wp2_with fail
      (try simp only [Exit.inBlock, Exit.then])
      refine bodyPost_ret (by simp [results, Tryd.results53, go_sem, r0, r1, r2, r3, r4, r5, r6, f0, f1, f2, f3, f4, f5, f6]; try rfl) rfl ?_
      refine ⟨zs, inc, del, _, _, _, _, _, g1, cp1, rfl, by omega, hcp1, ?_, ?_⟩
      · (repeat (first | (with_reducible refine own_drF ?_) | (with_reducible refine own_setF ?_ hne1) | (with_reducible refine own_setF ?_ hne2))); with_reducible exact HO.out
      · (repeat (first | (with_reducible refine Below.drew ?_) | (with_reducible refine Below.setCell ?_ (by dsimp only; omega) _))); with_reducible exact B2.out
  case neg =>
    have hvb : (v == 0) = false := beq_eq_false_iff_ne.mpr hv
    rcases hpl with rfl | rfl
    · obtain ⟨zs, hzs, HO⟩ := own_set2 (x := v) (k := 0) rfl O2.out (by omega)
      have HO := Lib.hid HO
      go_wp2_with fail
      go_region
      go_wp2_with fail
      (try simp only [Exit.inBlock, Exit.then])
      refine bodyPost_ret (by simp [results, Tryd.results53, go_sem, r0, r1, r2, r3, r4, r5, r6, f0, f1, f2, f3, f4, f5, f6]; try rfl) rfl ?_
      refine ⟨zs, inc, del, _, _, _, _, _, g1, cp1, rfl, by omega, hcp1, ?_, ?_⟩
      · (repeat (first | (with_reducible refine own_drF ?_) | (with_reducible refine own_setF ?_ hne1) | (with_reducible refine own_setF ?_ hne2))); with_reducible exact HO.out
      · (repeat (first | (with_reducible refine Below.drew ?_) | (with_reducible refine Below.setCell ?_ (by dsimp only; omega) _))); with_reducible exact B2.out
    · obtain ⟨zs, hzs, HO⟩ := own_set2 (x := v) (k := 1) rfl O2.out (by omega)
      have HO := Lib.hid HO
      go_wp2_with fail
      go_region
      go_wp2_with fail
      (try simp only [Exit.inBlock, Exit.then])
      refine bodyPost_ret (by simp [results, Tryd.results53, go_sem, r0, r1, r2, r3, r4, r5, r6, f0, f1, f2, f3, f4, f5, f6]; try rfl) rfl ?_
      refine ⟨zs, inc, del, _, _, _, _, _, g1, cp1, rfl, by omega, hcp1, ?_, ?_⟩
      · (repeat (first | (with_reducible refine own_drF ?_) | (with_reducible refine own_setF ?_ hne1) | (with_reducible refine own_setF ?_ hne2))); with_reducible exact HO.out
      · (repeat (first | (with_reducible refine Below.drew ?_) | (with_reducible refine Below.setCell ?_ (by dsimp only; omega) _))); with_reducible exact B2.out
end Go.Proofs.YtbepfonpfnllkaaDoor
