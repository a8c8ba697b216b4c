/- FnTimes: a clock that is started, pressed, stopped by the reference. Conditions: times of two players. -/
import Derived.Test.YtbepfonpfnllkaaDoorG15
namespace Go.Proofs.YtbepfonpfnllkaaDoor
set_option linter.unusedSimpArgs false
set_option linter.unusedVariables false
open Go.RowKit Go.WideShapes Go.ChangeShapes

/-- Some clock's value of one's own for two players, and the code 0. -/
def AnS (t : TypeId) (w : World) (e : Ending) (w' : World) : Prop :=
  ∃ (A' : Option Addr) (g cp' : Nat) (zs : List Int) (inc del pl si : Int) (ru fa : Bool), e = .returned (.tuple #[.agg #[.slice A' 2 cp', .int .i64 inc, .int .i64 del, .int .i64 pl, .int .i64 si, .bool ru, .bool fa], .int .i64 0]) ∧ w.heap.size ≤ g ∧ 2 ≤ cp' ∧ OwnV w' g t 1 A' 2 (zs.map (Value.int .i64)) ∧ Below w.heap.size w w'
set_option maxRecDepth 20000 in
set_option maxHeartbeats 2000000 in
theorem StartClock_ok (A : Option Addr) (n c : Nat) (zs : List Int) (inc del pl si : Int) (now : Int) (w : World) (hs : Sl w w.heap.size 1 A n (zs.map (Value.int .i64))) (hn : n ≤ 2) (hv : vC zs inc del pl si false false = true) (h1 : si ≤ now) (h2 : now ≤ 36000000) :
    Calls Tryd.prog 45 #[.agg #[.slice A n c, .int .i64 inc, .int .i64 del, .int .i64 pl, .int .i64 si, .bool false, .bool false], .int .i64 now] w (AnS 2 w) := by
  have C0 := Lib.hid (Blk.new w 33 #[.slice A n c, .int .i64 inc, .int .i64 del, .int .i64 pl, .int .i64 si, .bool false, .bool false])
  have N0 : Hid (Below w.heap.size w (w.alloc (.cells #[.slice A n c, .int .i64 inc, .int .i64 del, .int .i64 pl, .int .i64 si, .bool false, .bool false] 33))) := Below.alloc (Below.refl _ _) (Nat.le_refl _) _
  have hz0 : (w.alloc (.cells #[.slice A n c, .int .i64 inc, .int .i64 del, .int .i64 pl, .int .i64 si, .bool false, .bool false] 33)).heap.size = w.heap.size + 1 := by simp
  have N1 : Hid (Below (w.alloc (.cells #[.slice A n c, .int .i64 inc, .int .i64 del, .int .i64 pl, .int .i64 si, .bool false, .bool false] 33)).heap.size (w.alloc (.cells #[.slice A n c, .int .i64 inc, .int .i64 del, .int .i64 pl, .int .i64 si, .bool false, .bool false] 33)) ((w.alloc (.cells #[.slice A n c, .int .i64 inc, .int .i64 del, .int .i64 pl, .int .i64 si, .bool false, .bool false] 33)).alloc (.cells #[.slice none 0 0, .int .i64 0, .int .i64 0, .int .i64 0, .int .i64 0, .bool false, .bool false] 33))) := Below.alloc (Below.refl _ _) (Nat.le_refl _) _
  have HB := Lib.hid (C0.out.later N1.out)
  have R0 : Hid (Blk ((w.alloc (.cells #[.slice A n c, .int .i64 inc, .int .i64 del, .int .i64 pl, .int .i64 si, .bool false, .bool false] 33)).alloc (.cells #[.slice none 0 0, .int .i64 0, .int .i64 0, .int .i64 0, .int .i64 0, .bool false, .bool false] 33)) (w.heap.size + 1) 33 #[.slice none 0 0, .int .i64 0, .int .i64 0, .int .i64 0, .int .i64 0, .bool false, .bool false]) := Blk.new' (by simp)
  have HS := Lib.hid ((hs.later N0.out).later N1.out)
  have BA := Lib.hid (Below.via N1.out N0.out N0.out.size)
  have HLEN : Hid (zs.length = n) := hs.ints
  have hz1 : ((w.alloc (.cells #[.slice A n c, .int .i64 inc, .int .i64 del, .int .i64 pl, .int .i64 si, .bool false, .bool false] 33)).alloc (.cells #[.slice none 0 0, .int .i64 0, .int .i64 0, .int .i64 0, .int .i64 0, .bool false, .bool false] 33)).heap.size = w.heap.size + 2 := by simp
  clear hs
  go_enter Tryd.func45, Tryd.ntmps45
  go_wp2_with fail
  refine (l23Code_any A n c zs inc del pl si false false w.heap.size now false _ HS.out HB.out (by omega)).mono ?_
  rintro e w1 ⟨code, rfl, hcode, hok, hb1⟩
  have HC := Lib.hid hcode
  have HOK := Lib.hid hok
  have R1 := Lib.hid (R0.out.later hb1)
  have HB1 := Lib.hid (HB.out.later hb1)
  have HS1 := Lib.hid (HS.out.later hb1)
  have B1 := Lib.hid (Below.via hb1 BA.out (by omega))
  have hzz1 := hb1.size
  clear hb1 hcode hok
  obtain rfl : code = 0 := HOK.out hv h1 h2 rfl rfl
  obtain ⟨z0, z1, rfl, _⟩ := vC_of hv
  obtain rfl : n = 2 := HLEN.out.symm
  have hcn : ((0 : Int) != 0) = false := by decide
  go_wp2_with fail
  refine (l23Own_any A 2 c [z0, z1] inc del pl si false false w.heap.size _ HS1.out HB1.out (by omega)).mono ?_
  rintro e w2 ⟨A1, g1, cp1, rfl, hg1, hcp1, ho1, hb2⟩
  obtain ⟨rfl, -, -⟩ := ho1.blk (by omega)
  have N2 : Hid (Below w2.heap.size w2 (w2.alloc (.cells #[.slice (some ⟨g1, 0, none⟩) 2 cp1, .int .i64 inc, .int .i64 del, .int .i64 pl, .int .i64 si, .bool false, .bool false] 33))) := Below.alloc (Below.refl _ _) (Nat.le_refl _) _
  have X2 := Lib.hid (Blk.new w2 33 #[.slice (some ⟨g1, 0, none⟩) 2 cp1, .int .i64 inc, .int .i64 del, .int .i64 pl, .int .i64 si, .bool false, .bool false])
  have R2 := Lib.hid ((R1.out.later hb2).later N2.out)
  have O2 := Lib.hid (ho1.later N2.out)
  have B2 := Lib.hid (Below.via N2.out (Below.via hb2 B1.out (by omega)) (by have := hb2.size; omega))
  have hg1l := ho1.lt (by omega)
  have hzz2 := hb2.size
  clear ho1 hb2
  go_upto_region 5 with fail
  obtain ⟨w3, hw3⟩ : ∃ w3, w3 = w2.alloc (.cells #[.slice (some ⟨g1, 0, none⟩) 2 cp1, .int .i64 inc, .int .i64 del, .int .i64 pl, .int .i64 si, .bool false, .bool false] 33) := ⟨_, rfl⟩
  have hz3 : w3.heap.size = w2.heap.size + 1 := by rw [hw3]; simp
  rw [← hw3]
  rw [← hw3] at X2 R2 O2 B2
  clear hw3 N2
  obtain ⟨⟨x0, x1, x2, x3, x4, x5, x6⟩, ⟨y0, y1, y2, y3, y4, y5, y6⟩, hxl⟩ := blk7 X2.out
  obtain ⟨⟨r0, r1, r2, r3, r4, r5, r6⟩, ⟨f0, f1, f2, f3, f4, f5, f6⟩, hrl⟩ := blk7 R2.out
  have hne1 : g1 ≠ w2.heap.size := by omega
  have hne2 : g1 ≠ w.heap.size + 1 := by omega
  have hne3 : w2.heap.size ≠ w.heap.size + 1 := by omega
  go_wp2_with fail
  (try simp only [Exit.inBlock, Exit.then])
  refine bodyPost_ret (by simp [results, Tryd.results45, go_sem, r0, r1, r2, r3, r4, r5, r6, f0, f1, f2, f3, f4, f5, f6]; try rfl) rfl ?_
  refine ⟨_, g1, cp1, [z0, z1], inc, del, pl, _, _, _, rfl, by omega, hcp1, ?_, ?_⟩
  · (repeat (first | (with_reducible refine own_drF ?_) | (with_reducible refine own_setF ?_ hne1) | (with_reducible refine own_setF ?_ hne2))); with_reducible exact O2.out
  · (repeat (first | (with_reducible refine Below.drew ?_) | (with_reducible refine Below.setCell ?_ (by dsimp only; omega) _))); with_reducible exact B2.out
set_option maxRecDepth 20000 in
set_option maxHeartbeats 2000000 in
theorem StopClock_any (A : Option Addr) (n c : Nat) (zs : List Int) (inc del pl si : Int) (ru fa : Bool) (now : Int) (w : World) (hs : Sl w w.heap.size 1 A n (zs.map (Value.int .i64))) (hn : n ≤ 2) :
    Calls Tryd.prog 47 #[.agg #[.slice A n c, .int .i64 inc, .int .i64 del, .int .i64 pl, .int .i64 si, .bool ru, .bool fa], .int .i64 now] w (AnK 2 w) := by
  have C0 := Lib.hid (Blk.new w 33 #[.slice A n c, .int .i64 inc, .int .i64 del, .int .i64 pl, .int .i64 si, .bool ru, .bool fa])
  have N0 : Hid (Below w.heap.size w (w.alloc (.cells #[.slice A n c, .int .i64 inc, .int .i64 del, .int .i64 pl, .int .i64 si, .bool ru, .bool fa] 33))) := Below.alloc (Below.refl _ _) (Nat.le_refl _) _
  have hz0 : (w.alloc (.cells #[.slice A n c, .int .i64 inc, .int .i64 del, .int .i64 pl, .int .i64 si, .bool ru, .bool fa] 33)).heap.size = w.heap.size + 1 := by simp
  have N1 : Hid (Below (w.alloc (.cells #[.slice A n c, .int .i64 inc, .int .i64 del, .int .i64 pl, .int .i64 si, .bool ru, .bool fa] 33)).heap.size (w.alloc (.cells #[.slice A n c, .int .i64 inc, .int .i64 del, .int .i64 pl, .int .i64 si, .bool ru, .bool fa] 33)) ((w.alloc (.cells #[.slice A n c, .int .i64 inc, .int .i64 del, .int .i64 pl, .int .i64 si, .bool ru, .bool fa] 33)).alloc (.cells #[.slice none 0 0, .int .i64 0, .int .i64 0, .int .i64 0, .int .i64 0, .bool false, .bool false] 33))) := Below.alloc (Below.refl _ _) (Nat.le_refl _) _
  have HB := Lib.hid (C0.out.later N1.out)
  have R0 : Hid (Blk ((w.alloc (.cells #[.slice A n c, .int .i64 inc, .int .i64 del, .int .i64 pl, .int .i64 si, .bool ru, .bool fa] 33)).alloc (.cells #[.slice none 0 0, .int .i64 0, .int .i64 0, .int .i64 0, .int .i64 0, .bool false, .bool false] 33)) (w.heap.size + 1) 33 #[.slice none 0 0, .int .i64 0, .int .i64 0, .int .i64 0, .int .i64 0, .bool false, .bool false]) := Blk.new' (by simp)
  have HS := Lib.hid ((hs.later N0.out).later N1.out)
  have BA := Lib.hid (Below.via N1.out N0.out N0.out.size)
  have HLEN : Hid (zs.length = n) := hs.ints
  have hz1 : ((w.alloc (.cells #[.slice A n c, .int .i64 inc, .int .i64 del, .int .i64 pl, .int .i64 si, .bool ru, .bool fa] 33)).alloc (.cells #[.slice none 0 0, .int .i64 0, .int .i64 0, .int .i64 0, .int .i64 0, .bool false, .bool false] 33)).heap.size = w.heap.size + 2 := by simp
  clear hs
  go_enter Tryd.func47, Tryd.ntmps47
  go_wp2_with fail
  refine (l23Code_any A n c zs inc del pl si ru fa w.heap.size now true _ HS.out HB.out (by omega)).mono ?_
  rintro e w1 ⟨code, rfl, hcode, hok, hb1⟩
  have HC := Lib.hid hcode
  have HOK := Lib.hid hok
  have R1 := Lib.hid (R0.out.later hb1)
  have HB1 := Lib.hid (HB.out.later hb1)
  have HS1 := Lib.hid (HS.out.later hb1)
  have B1 := Lib.hid (Below.via hb1 BA.out (by omega))
  have hzz1 := hb1.size
  clear hb1 hcode hok
  by_cases h0 : code = 0
  case neg =>
    have hcb : (code != 0) = true := by rw [bne_iff_ne]; exact h0
    obtain ⟨⟨r0, r1, r2, r3, r4, r5, r6⟩, ⟨f0, f1, f2, f3, f4, f5, f6⟩, hrl⟩ := blk7 R1.out
    go_wp2_with fail
    (try simp only [Exit.inBlock, Exit.then])
    refine bodyPost_ret (by simp [results, Tryd.results47, go_sem, r0, r1, r2, r3, r4, r5, r6, f0, f1, f2, f3, f4, f5, f6]; try rfl) rfl ?_
    refine ⟨none, w.heap.size, 0, 0, [], 0, 0, 0, 0, false, false, code, rfl, fun h => absurd h h0, Nat.le_refl _, Nat.le_refl _, OwnV.none _ _ _ _ _, ?_⟩
    (repeat (refine Below.setCell ?_ (by dsimp only; omega) _)); exact B1.out
  case pos =>
    obtain ⟨hv, h1, h2⟩ := HC.out h0
    subst h0
    obtain ⟨z0, z1, rfl, -, -, -, -, -, hpl, -⟩ := vC_of hv
    obtain rfl : n = 2 := HLEN.out.symm
    have hcn : ((0 : Int) != 0) = false := by decide
    go_wp2_with fail
    refine (l23Use_any A c z0 z1 inc del pl si ru fa w.heap.size now _ HS1.out HB1.out hpl).mono ?_
    rintro e w2 ⟨zs2, inc2, del2, pl2, si2, ru2, fa2, A1, g1, cp1, rfl, hg1, hcp1, ho1, hb2⟩
    obtain ⟨rfl, -, -⟩ := ho1.blk (by omega)
    have hl2 : zs2.length = 2 := by have := ho1.len; simpa using this
    obtain ⟨y0', y1', rfl⟩ := list2 hl2
    have N2 : Hid (Below w2.heap.size w2 (w2.alloc (.cells #[.slice (some ⟨g1, 0, none⟩) 2 cp1, .int .i64 inc2, .int .i64 del2, .int .i64 pl2, .int .i64 si2, .bool ru2, .bool fa2] 33))) := Below.alloc (Below.refl _ _) (Nat.le_refl _) _
    have X2 := Lib.hid (Blk.new w2 33 #[.slice (some ⟨g1, 0, none⟩) 2 cp1, .int .i64 inc2, .int .i64 del2, .int .i64 pl2, .int .i64 si2, .bool ru2, .bool fa2])
    have R2 := Lib.hid ((R1.out.later hb2).later N2.out)
    have HB2 := Lib.hid ((HB1.out.later hb2).later N2.out)
    have O2 := Lib.hid (ho1.later N2.out)
    have B2 := Lib.hid (Below.via N2.out (Below.via hb2 B1.out (by omega)) (by have := hb2.size; omega))
    have hg1l := ho1.lt (by omega)
    have hzz2 := hb2.size
    clear ho1 hb2
    go_upto_region 5 with fail
    obtain ⟨w3, hw3⟩ : ∃ w3, w3 = w2.alloc (.cells #[.slice (some ⟨g1, 0, none⟩) 2 cp1, .int .i64 inc2, .int .i64 del2, .int .i64 pl2, .int .i64 si2, .bool ru2, .bool fa2] 33) := ⟨_, rfl⟩
    have hz3 : w3.heap.size = w2.heap.size + 1 := by rw [hw3]; simp
    rw [← hw3]
    rw [← hw3] at X2 R2 HB2 O2 B2
    clear hw3 N2
    obtain ⟨⟨x0, x1, x2, x3, x4, x5, x6⟩, ⟨y0, y1, y2, y3, y4, y5, y6⟩, hxl⟩ := blk7 X2.out
    obtain ⟨⟨r0, r1, r2, r3, r4, r5, r6⟩, ⟨f0, f1, f2, f3, f4, f5, f6⟩, hrl⟩ := blk7 R2.out
    obtain ⟨⟨p0, p1, p2, p3, p4, p5, p6⟩, _, hpl2⟩ := blk7 HB2.out
    have hne1 : g1 ≠ w2.heap.size := by omega
    have hne2 : g1 ≠ w.heap.size + 1 := by omega
    have hne3 : w2.heap.size ≠ w.heap.size + 1 := by omega
    obtain ⟨_, rest, hk⟩ := O2.out.blk (by omega)
    have t0 := hk.cell 0
    have t1 := hk.cell 1
    have u0 := hk.free 0
    have u1 := hk.free 1
    have hkl := hk.lt
    clear hk
    go_wp2_with fail
    (try simp only [Exit.inBlock, Exit.then])
    refine bodyPost_ret (by simp [results, Tryd.results47, go_sem, r0, r1, r2, r3, r4, r5, r6, f0, f1, f2, f3, f4, f5, f6]; try rfl) rfl ?_
    refine ⟨_, g1, 2, cp1, [y0', y1'], inc2, del2, pl2, _, _, _, 0, rfl, fun _ => rfl, by omega, hcp1, ?_, ?_⟩
    · (repeat (first | (with_reducible refine own_drF ?_) | (with_reducible refine own_setF ?_ hne1) | (with_reducible refine own_setF ?_ hne2))); with_reducible exact O2.out
    · (repeat (first | (with_reducible refine Below.drew ?_) | (with_reducible refine Below.setCell ?_ (by dsimp only; omega) _))); with_reducible exact B2.out
end Go.Proofs.YtbepfonpfnllkaaDoor
