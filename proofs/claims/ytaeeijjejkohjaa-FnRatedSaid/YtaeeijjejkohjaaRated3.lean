/- RatePeriod by the reference, over players and games that are checked. Conditions: at most 100 of each. -/
import Derived.Test.YtaeeijjejkohjaaRated2
import Derived.Test.YtaeeijjejkohjaaMove2
namespace Go.Proofs.Ytaeeijjejkohjaa
set_option linter.unusedSimpArgs false
set_option linter.unusedVariables false
open Go.RowKit

theorem bb4_keep {W W' : World} {b1 o1 o2 gs gc o3 : Nat} {u0 u1 u2 u3 : Value} (h : (W.cell? ⟨b1, o1, none⟩ = some u0 ∧ W.cell? ⟨b1, o2, none⟩ = some u1) ∧ (W.cell? ⟨gs, o3, none⟩ = some u2 ∧ W.cell? ⟨gc, o3, none⟩ = some u3)) (hb : Below W.heap.size W W') : (W'.cell? ⟨b1, o1, none⟩ = some u0 ∧ W'.cell? ⟨b1, o2, none⟩ = some u1) ∧ (W'.cell? ⟨gs, o3, none⟩ = some u2 ∧ W'.cell? ⟨gc, o3, none⟩ = some u3) := by
  obtain ⟨⟨a0, a1⟩, ⟨b0, b1⟩⟩ := h
  exact ⟨⟨(hb.cell (p := ⟨_, _, none⟩) (cell_lt a0)).trans a0, (hb.cell (p := ⟨_, _, none⟩) (cell_lt a0)).trans a1⟩, ⟨(hb.cell (p := ⟨_, _, none⟩) (cell_lt b0)).trans b0, (hb.cell (p := ⟨_, _, none⟩) (cell_lt b1)).trans b1⟩⟩
theorem bb4_drew {W : World} {b1 o1 o2 gs gc o3 : Nat} {u0 u1 u2 u3 : Value} (h : (W.cell? ⟨b1, o1, none⟩ = some u0 ∧ W.cell? ⟨b1, o2, none⟩ = some u1) ∧ (W.cell? ⟨gs, o3, none⟩ = some u2 ∧ W.cell? ⟨gc, o3, none⟩ = some u3)) : (W.drew.cell? ⟨b1, o1, none⟩ = some u0 ∧ W.drew.cell? ⟨b1, o2, none⟩ = some u1) ∧ (W.drew.cell? ⟨gs, o3, none⟩ = some u2 ∧ W.drew.cell? ⟨gc, o3, none⟩ = some u3) := h
theorem bb4_alloc {W : World} {b1 o1 o2 gs gc o3 : Nat} {u0 u1 u2 u3 : Value} (h : (W.cell? ⟨b1, o1, none⟩ = some u0 ∧ W.cell? ⟨b1, o2, none⟩ = some u1) ∧ (W.cell? ⟨gs, o3, none⟩ = some u2 ∧ W.cell? ⟨gc, o3, none⟩ = some u3)) (o : Obj) : ((W.alloc o).cell? ⟨b1, o1, none⟩ = some u0 ∧ (W.alloc o).cell? ⟨b1, o2, none⟩ = some u1) ∧ ((W.alloc o).cell? ⟨gs, o3, none⟩ = some u2 ∧ (W.alloc o).cell? ⟨gc, o3, none⟩ = some u3) := bb4_keep h (boxed2' _ _)
theorem bb4_grown {W W' : World} {b1 o1 o2 gs gc o3 : Nat} {u0 u1 u2 u3 : Value} {r : Option Nat} (h : (W.cell? ⟨b1, o1, none⟩ = some u0 ∧ W.cell? ⟨b1, o2, none⟩ = some u1) ∧ (W.cell? ⟨gs, o3, none⟩ = some u2 ∧ W.cell? ⟨gc, o3, none⟩ = some u3)) (hg : W.grownBy W' r) (n1 : some b1 ≠ r) (n2 : some gs ≠ r) (n3 : some gc ≠ r) : (W'.cell? ⟨b1, o1, none⟩ = some u0 ∧ W'.cell? ⟨b1, o2, none⟩ = some u1) ∧ (W'.cell? ⟨gs, o3, none⟩ = some u2 ∧ W'.cell? ⟨gc, o3, none⟩ = some u3) := by
  obtain ⟨⟨a0, a1⟩, ⟨b0, b1⟩⟩ := h
  exact ⟨⟨(World.cell?_of_block (a := ⟨_, _, none⟩) (hg.block _ (cell_lt a0) n1)).trans a0, (World.cell?_of_block (a := ⟨_, _, none⟩) (hg.block _ (cell_lt a0) n1)).trans a1⟩, ⟨(World.cell?_of_block (a := ⟨_, _, none⟩) (hg.block _ (cell_lt b0) n2)).trans b0, (World.cell?_of_block (a := ⟨_, _, none⟩) (hg.block _ (cell_lt b1) n3)).trans b1⟩⟩
def RpPost (P : Program) (R : List Int) (n : Nat) (code : Int) (w : World) (e : Ending) (w' : World) : Prop :=
  ∃ (A : Option Addr) (g cap : Nat), e = .returned (.tuple #[.slice A n cap, .int .i64 code]) ∧ w.heap.size ≤ g ∧ Own w' g 24 2 A n R ∧ Below w.heap.size w w'
set_option maxRecDepth 100000 in
set_option maxHeartbeats 2000000 in
theorem sRatePeriod_good (A1 A2 : Option Addr) (n c1 m c2 : Nat) (L G : List Int) (w : World) (hL : Sl w w.heap.size 2 A1 n (L.map (Value.int .i64))) (hG : Sl w w.heap.size 3 A2 m (G.map (Value.int .i64))) (hn : n ≤ 100) (hm : m ≤ 100) (hcode : rpE L G n m = 0) (ho : GOk L G n m) :
    Calls Try.prog 24 #[.slice A1 n c1, .slice A2 m c2] w (RpPost Try.prog (ratedL L G n m) n 0 w) := by
  obtain ⟨i0, hi, hz0, hz1, hz2⟩ := info_parts info_int64r
  have hmk := fun W => run_makeN (P := Try.prog) 35 2 i0 (.int .i64 0) Try.underlying35 hi hz0 .i64 .i64 n n (Nat.le_refl _) (by rw [hz2]; omega) (by omega) W
  rw [hz1, Nat.mul_one] at hmk
  clear hi hz0 hz1 hz2
  have HO := Lib.hid ho
  have HLS := Lib.hid hL
  have HGS := Lib.hid hG
  have HCD := Lib.hid hcode
  clear ho hL hG hcode
  go_enter Try.func24, Try.ntmps24
  go_upto_region 5 with (go_at_call 59; (with_reducible refine Calls.mono (l25Code_any A1 A2 n c1 m c2 L G _ HLS.out HGS.out (by omega) (by omega)) ?_); rw [HCD.out]; rintro e w0 ⟨rfl, hb0⟩)
  go_cut [7, 8] (fun s5 s6 wx => ∃ gs gc, s5 = .slice (some ⟨gs, 0, none⟩) n n ∧ s6 = .slice (some ⟨gc, 0, none⟩) n n ∧ gs ≠ gc ∧ w.heap.size ≤ gs ∧ w.heap.size ≤ gc ∧ Blk wx gs 2 ((List.replicate n (0 : Int)).map (Value.int .i64)).toArray ∧ Blk wx gc 2 ((List.replicate n (0 : Int)).map (Value.int .i64)).toArray ∧ Below w.heap.size w wx)
  case first => as_aux_lemma =>
    have hz0 := hb0.size
    go_wp2_with fail
    go_meet
    refine ⟨_, _, rfl, rfl, by simp, by first | omega | (simp; omega), by first | omega | (simp; omega), ?_, ?_, by (repeat' (first | (with_reducible exact Below.refl _ _) | (with_reducible assumption) | (with_reducible refine Below.alloc ?_ ?_ _) | (with_reducible refine Below.drew ?_) | (with_reducible refine belowDrewN ?_ _) | (with_reducible refine Below.setCell ?_ ?_ _) | (with_reducible refine Below.via (by with_reducible assumption) ?_ ?_) | (with_reducible refine Below.viaD (by with_reducible assumption) ?_ ?_) | (with_reducible exact Below.size (by with_reducible assumption)) | go_size | (with_reducible refine Nat.le_trans ?_ (Below.size (by with_reducible assumption))) | (with_reducible refine Nat.le_trans ?_ (sizeAlloc _ _)) | (with_reducible refine Nat.le_trans ?_ (sizeSet _ _ _)) | (with_reducible refine Nat.le_trans ?_ (sizeDrew _))))⟩
    · rw [List.map_replicate, ← made_one]
      first | exact (Blk.new _ _ _).later (Below.alloc (Below.refl _ _) (Nat.le_refl _) _) | exact Blk.new _ _ _ | (refine Blk.new' ?_; simp; done)
    · rw [List.map_replicate, ← made_one]
      first | exact (Blk.new _ _ _).later (Below.alloc (Below.refl _ _) (Nat.le_refl _) _) | exact Blk.new _ _ _ | (refine Blk.new' ?_; simp; done)
  case rest => as_aux_lemma =>
    obtain ⟨gs, gc, rfl, rfl, hne, hgs, hgc, kS, kC, hB0⟩ := hcut
    rename World => w1
    have HKS := Lib.hid kS
    have HKC := Lib.hid kC
    have HB0 := Lib.hid hB0
    clear kS kC hB0
    go_wp2_with fail
    go_loopw [9] (fun i wr => ∃ k : Nat, k ≤ m ∧ i = .int .i64 k ∧ Blk wr gs 2 ((sumsL L G n k).map (Value.int .i64)).toArray ∧ Blk wr gc 2 ((cntL G n k).map (Value.int .i64)).toArray ∧ Below w.heap.size w wr) (fun i _ => m - (intOf i).toNat)
    case atStart => exact ⟨0, Nat.zero_le _, rfl, HKS.out, HKC.out, HB0.out⟩
    case round =>
      obtain ⟨k, hk, rfl, kS, kC, hbl⟩ := hrel
      by_cases hlt : k < m
      · obtain ⟨bG, oG, rfl, hbG, hlG, hcG⟩ := (HGS.out.below hbl).cellAt hlt
        have hg0 := hcG 0 (by omega)
        have hg1 := hcG 1 (by omega)
        have hg2 := hcG 2 (by omega)
        obtain ⟨a1, a2⟩ := HO.out.a k hlt
        obtain ⟨b1, b2⟩ := HO.out.b k hlt
        have hne2 := HO.out.ne k hlt
        obtain ⟨z1', z2'⟩ := HO.out.s k hlt
        obtain ⟨o1, o2⟩ := ownG_bd HO.out hlt
        have HIA : Hid (ix G (k * 3) = (G.getD (k * 3) 0).toNat) := rfl
        have HIB : Hid (ix G (k * 3 + 1) = (G.getD (k * 3 + 1) 0).toNat) := rfl
        have HOW : Hid (ownG L G k = 500 * G.getD (k * 3 + 2) 0 - expE (L.getD (ix G (k * 3) * 2) 0 - L.getD (ix G (k * 3 + 1) * 2) 0)) := rfl
        rw [Nat.add_zero] at hg0
        rw [← Nat.add_assoc] at hg1 hg2
        obtain ⟨a, ha⟩ := Int.eq_ofNat_of_zero_le a1
        obtain ⟨b, hb⟩ := Int.eq_ofNat_of_zero_le b1
        obtain ⟨z2, hz2⟩ : ∃ z, G.getD (k * 3 + 2) 0 = z := ⟨_, rfl⟩
        rw [ha] at hg0 a2 hne2 HIA
        rw [hb] at hg1 b2 hne2 HIB
        rw [hz2] at hg2 z1' z2' HOW
        rw [Int.toNat_natCast] at HIA HIB
        rw [HIA.out, HIB.out] at HOW
        have han : a < n := by omega
        have hbn : b < n := by omega
        have hab : a ≠ b := by omega
        obtain ⟨r1, r2, _, _⟩ := HO.out.r a han
        obtain ⟨r3, r4, _, _⟩ := HO.out.r b hbn
        obtain ⟨bl, ol, e1, hbL, hlL, hcL⟩ := (HLS.out.below hbl).cellAt han
        obtain ⟨bl', ol', e2, _, _, hcL'⟩ := (HLS.out.below hbl).cellAt hbn
        subst e1
        injection e2 with e2
        injection e2 with e21 e22 _
        subst e21 e22
        have hra := hcL 0 (by omega)
        have hrb := hcL' 0 (by omega)
        rw [Nat.add_zero] at hra hrb
        obtain ⟨ra, hra2⟩ : ∃ z, L.getD (a * 2) 0 = z := ⟨_, rfl⟩
        obtain ⟨rb, hrb2⟩ : ∃ z, L.getD (b * 2) 0 = z := ⟨_, rfl⟩
        rw [hra2] at hra r1 r2 HOW
        rw [hrb2] at hrb r3 r4 HOW
        have HCE := Lib.hid (fun w => l25Expected_any (ra - rb) (by omega) (by omega) w)
        obtain ⟨x1, x2⟩ := expE_bd (ra - rb)
        revert HOW HCE x1 x2
        generalize expE (ra - rb) = ex
        intro HOW HCE x1 x2
        have hw1 : IntKind.i64.wrap (500 * z2) = 500 * z2 := IntWalk.i64_in _ (by omega)
        have hw2 : IntKind.i64.wrap (ra - rb) = ra - rb := IntWalk.i64_in _ (by omega)
        have hw3 : IntKind.i64.wrap (500 * z2 - ex) = 500 * z2 - ex := IntWalk.i64_in _ (by omega)
        have HSB := Lib.hid kS
        have HCB := Lib.hid kC
        have HBL := Lib.hid hbl
        have hSl := kS.lt
        have hCl := kC.lt
        have hbw := hbl.size
        clear kS kC hcG hcL hcL' ha hb hz2 hra2 hrb2 hlG hlL hne2
        have K8 := Blk.new wr 53 #[.int .i64 (a : Nat), .int .i64 (b : Nat), .int .i64 z2]
        have hS0 : ((wr.alloc (.cells #[.int .i64 (a : Nat), .int .i64 (b : Nat), .int .i64 z2] 53)).cell? ⟨wr.heap.size, 0, none⟩ = some (.int .i64 (a : Nat)) ∧ (wr.alloc (.cells #[.int .i64 (a : Nat), .int .i64 (b : Nat), .int .i64 z2] 53)).cell? ⟨wr.heap.size, 1, none⟩ = some (.int .i64 (b : Nat)) ∧ (wr.alloc (.cells #[.int .i64 (a : Nat), .int .i64 (b : Nat), .int .i64 z2] 53)).cell? ⟨wr.heap.size, 2, none⟩ = some (.int .i64 z2)) ∧ ((wr.alloc (.cells #[.int .i64 (a : Nat), .int .i64 (b : Nat), .int .i64 z2] 53)).cell? ⟨bl, ol + a * 2, none⟩ = some (.int .i64 ra) ∧ (wr.alloc (.cells #[.int .i64 (a : Nat), .int .i64 (b : Nat), .int .i64 z2] 53)).cell? ⟨bl, ol + b * 2, none⟩ = some (.int .i64 rb)) ∧ Below (wr.alloc (.cells #[.int .i64 (a : Nat), .int .i64 (b : Nat), .int .i64 z2] 53)).heap.size (wr.alloc (.cells #[.int .i64 (a : Nat), .int .i64 (b : Nat), .int .i64 z2] 53)) (wr.alloc (.cells #[.int .i64 (a : Nat), .int .i64 (b : Nat), .int .i64 z2] 53)) := ⟨⟨K8.cell 0, K8.cell 1, K8.cell 2⟩, ⟨((boxed2' wr _).cell (p := ⟨bl, ol + a * 2, none⟩) (cell_lt hra)).trans hra, ((boxed2' wr _).cell (p := ⟨bl, ol + b * 2, none⟩) (cell_lt hrb)).trans hrb⟩, Below.refl _ _⟩
        clear K8
        go_wp2_with fail
        go_region_held3 (fun W => (W.cell? ⟨wr.heap.size, 0, none⟩ = some (.int .i64 (a : Nat)) ∧ W.cell? ⟨wr.heap.size, 1, none⟩ = some (.int .i64 (b : Nat)) ∧ W.cell? ⟨wr.heap.size, 2, none⟩ = some (.int .i64 z2)) ∧ (W.cell? ⟨bl, ol + a * 2, none⟩ = some (.int .i64 ra) ∧ W.cell? ⟨bl, ol + b * 2, none⟩ = some (.int .i64 rb)) ∧ Below (wr.alloc (.cells #[.int .i64 (a : Nat), .int .i64 (b : Nat), .int .i64 z2] 53)).heap.size (wr.alloc (.cells #[.int .i64 (a : Nat), .int .i64 (b : Nat), .int .i64 z2] 53)) W) (first | (with_reducible exact box5_drew hS0) | (with_reducible exact box5_keep (by with_reducible assumption) (by with_reducible assumption)) | (with_reducible assumption)) (first
          | (go_at_call 40; (with_reducible refine Calls.mono (HCE.out _) ?_); rintro e w5 ⟨rfl, hb5⟩))
        all_goals
          have hS5 : (w5.cell? ⟨wr.heap.size, 0, none⟩ = some (.int .i64 (a : Nat)) ∧ w5.cell? ⟨wr.heap.size, 1, none⟩ = some (.int .i64 (b : Nat)) ∧ w5.cell? ⟨wr.heap.size, 2, none⟩ = some (.int .i64 z2)) ∧ (w5.cell? ⟨bl, ol + a * 2, none⟩ = some (.int .i64 ra) ∧ w5.cell? ⟨bl, ol + b * 2, none⟩ = some (.int .i64 rb)) ∧ Below (wr.alloc (.cells #[.int .i64 (a : Nat), .int .i64 (b : Nat), .int .i64 z2] 53)).heap.size (wr.alloc (.cells #[.int .i64 (a : Nat), .int .i64 (b : Nat), .int .i64 z2] 53)) w5 := by with_reducible assumption
          obtain ⟨⟨g0', g1', g2'⟩, _, hB5⟩ := hS5
          have B5 := bbox hB5
          have kS5 := HSB.out.later B5
          have kC5 := HCB.out.later B5
          have BW5 := Below.via B5 HBL.out hbw
          have v0 := (kS5.cell a).trans (aget (by rw [sumsL_len]; exact han))
          have v1 := (kS5.cell b).trans (aget (by rw [sumsL_len]; exact hbn))
          have u0 := (kC5.cell a).trans (aget (by rw [cntL_len]; exact han))
          have u1 := (kC5.cell b).trans (aget (by rw [cntL_len]; exact hbn))
          have f0 := kS5.free a
          have f1 := kS5.free b
          have f2 := kC5.free a
          have f3 := kC5.free b
          obtain ⟨q1, q2⟩ := sumsL_bd HO.out (Nat.le_of_lt hlt) a
          obtain ⟨q3, q4⟩ := sumsL_bd HO.out (Nat.le_of_lt hlt) b
          obtain ⟨q5, q6⟩ := cntL_bd G n k a
          obtain ⟨q7, q8⟩ := cntL_bd G n k b
          have hXS : sumsL L G n (k + 1) = ((sumsL L G n k).set a ((sumsL L G n k).getD a 0 + (500 * z2 - ex))).set b ((sumsL L G n k).getD b 0 - (500 * z2 - ex)) := by
            have hsub : ∀ x y : Int, x + -y = x - y := fun x y => by omega
            rw [sumsL, HIA.out, HIB.out, HOW.out, add1_two hab, hsub]
          have hXC : cntL G n (k + 1) = ((cntL G n k).set a ((cntL G n k).getD a 0 + 1)).set b ((cntL G n k).getD b 0 + 1) := by
            rw [cntL, HIA.out, HIB.out, add1_two hab]
          revert v0 v1 u0 u1 q1 q2 q3 q4 q5 q6 q7 q8 hXS hXC
          generalize (sumsL L G n k).getD a 0 = va
          generalize (sumsL L G n k).getD b 0 = vb
          generalize (cntL G n k).getD a 0 = ca
          generalize (cntL G n k).getD b 0 = cb
          intro v0 v1 u0 u1 q1 q2 q3 q4 q5 q6 q7 q8 hXS hXC
          have HXS := Lib.hid hXS
          have HXC := Lib.hid hXC
          have HKS5 := Lib.hid kS5
          have HKC5 := Lib.hid kC5
          have hba : b ≠ a := fun e => hab e.symm
          have hgcs : gc ≠ gs := fun e => hne e.symm
          clear hXS hXC kS5 kC5 hS0 B5 hB5 hg0 hg1 hg2 hra hrb
          go_wp2_with fail
          go_roundw
          case rel =>
            refine ⟨k + 1, by omega, by go_num, ?_, ?_, by (repeat' (first | (with_reducible exact Below.refl _ _) | (with_reducible assumption) | (with_reducible refine Below.alloc ?_ ?_ _) | (with_reducible refine Below.drew ?_) | (with_reducible refine belowDrewN ?_ _) | (with_reducible refine Below.setCell ?_ ?_ _) | (with_reducible refine Below.via (by with_reducible assumption) ?_ ?_) | (with_reducible refine Below.viaD (by with_reducible assumption) ?_ ?_) | (with_reducible exact Below.size (by with_reducible assumption)) | go_size | (with_reducible refine Nat.le_trans ?_ (Below.size (by with_reducible assumption))) | (with_reducible refine Nat.le_trans ?_ (sizeAlloc _ _)) | (with_reducible refine Nat.le_trans ?_ (sizeSet _ _ _)) | (with_reducible refine Nat.le_trans ?_ (sizeDrew _))))⟩
            · rw [HXS.out, ← aset, ← aset]
              exact (((HKS5.out.set a _).set b _).setO (p := ⟨gc, a, none⟩) _ hne).setO (p := ⟨gc, b, none⟩) _ hne
            · rw [HXC.out, ← aset, ← aset]
              exact ((((HKC5.out.setO (p := ⟨gs, a, none⟩) _ hgcs).setO (p := ⟨gs, b, none⟩) _ hgcs).set a _).set b _)
          case measure => first | (simp [intOf]; done) | (simp [intOf]; omega)
      · obtain rfl : k = m := by omega
        have HSB := Lib.hid kS
        have HCB := Lib.hid kC
        clear kS kC
        have HBL := Lib.hid hbl
        have hbs := hbl.size
        have hgsl := HSB.out.lt
        have hgcl := HCB.out.lt
        obtain ⟨i1, ti, tz0, tz1, tz2⟩ := info_parts info_Rated2
        clear hbl
        go_wp2_with fail
        obtain ⟨wb, hwb⟩ : ∃ wb : World, wb = wr := ⟨_, rfl⟩
        subst hwb
        go_loopw [12, 13] (fun v i wr => ∃ k2 : Nat, k2 ≤ n ∧ i = .int .i64 k2 ∧ wr.ownsRow wb.heap.size 24 2 v k2 ((outL L (sumsL L G n k) (cntL G n k) k2).map (Value.int .i64)) ∧ Below wb.heap.size wb wr) (fun _ i _ => n - (intOf i).toNat)
        case atStart => exact ⟨0, Nat.zero_le _, rfl, World.ownsRow_made _ _ 0 (Nat.le_refl _) (Nat.zero_le _) rfl, by (repeat' (first | (with_reducible exact Below.refl _ _) | (with_reducible assumption) | (with_reducible refine Below.alloc ?_ ?_ _) | (with_reducible refine Below.drew ?_) | (with_reducible refine belowDrewN ?_ _) | (with_reducible refine Below.setCell ?_ ?_ _) | (with_reducible refine Below.via (by with_reducible assumption) ?_ ?_) | (with_reducible refine Below.viaD (by with_reducible assumption) ?_ ?_) | (with_reducible exact Below.size (by with_reducible assumption)) | go_size | (with_reducible refine Nat.le_trans ?_ (Below.size (by with_reducible assumption))) | (with_reducible refine Nat.le_trans ?_ (sizeAlloc _ _)) | (with_reducible refine Nat.le_trans ?_ (sizeSet _ _ _)) | (with_reducible refine Nat.le_trans ?_ (sizeDrew _))))⟩
        case round =>
          obtain ⟨k2, hk2, rfl, hown, hbl⟩ := hrel
          by_cases hlt : k2 < n
          · have hBw := Below.via hbl HBL.out hbs
            obtain ⟨bl, ol, rfl, hbL, hlL, hcL⟩ := (HLS.out.below hBw).cellAt hlt
            have hra := hcL 0 (by omega)
            have hrg := hcL 1 (by omega)
            obtain ⟨r1, r2, r3, r4⟩ := HO.out.r k2 hlt
            have hsk := ((HSB.out.later hbl).cell k2).trans (aget (by rw [sumsL_len]; exact hlt))
            have hck := ((HCB.out.later hbl).cell k2).trans (aget (by rw [cntL_len]; exact hlt))
            obtain ⟨q1, q2⟩ := sumsL_bd HO.out (Nat.le_refl _) k2
            obtain ⟨q3, q4⟩ := cntL_bd G n k k2
            have hX : outL L (sumsL L G n k) (cntL G n k) (k2 + 1) = outL L (sumsL L G n k) (cntL G n k) k2 ++ [mvA (L.getD (k2 * 2) 0) (L.getD (k2 * 2 + 1) 0) ((sumsL L G n k).getD k2 0), mvB (L.getD (k2 * 2 + 1) 0) ((cntL G n k).getD k2 0)] := rfl
            have hol := outL_len L (sumsL L G n k) (cntL G n k) k2
            rw [Nat.add_zero] at hra
            rw [← Nat.add_assoc] at hrg
            obtain ⟨ra, era⟩ : ∃ z, L.getD (k2 * 2) 0 = z := ⟨_, rfl⟩
            rw [era] at hra r1 r2 hX
            obtain ⟨rg, erg⟩ : ∃ z, L.getD (k2 * 2 + 1) 0 = z := ⟨_, rfl⟩
            rw [erg] at hrg r3 r4 hX
            obtain ⟨sk, esk⟩ : ∃ z, (sumsL L G n k).getD k2 0 = z := ⟨_, rfl⟩
            rw [esk] at hsk q1 q2 hX
            obtain ⟨ck, eck⟩ : ∃ z, (cntL G n k).getD k2 0 = z := ⟨_, rfl⟩
            rw [eck] at hck q3 q4 hX
            obtain ⟨ol2, eol⟩ : ∃ z, outL L (sumsL L G n k) (cntL G n k) k2 = z := ⟨_, rfl⟩
            rw [eol] at hX hol hown
            clear era erg esk eck eol
            have HCH := Lib.hid (fun w => l25Move_any ra rg sk ck r1 r2 r3 r4 (by omega) (by omega) q3 (by omega) w)
            obtain ⟨x, hx⟩ : ∃ x, mvA ra rg sk = x := ⟨_, rfl⟩
            obtain ⟨y, hy⟩ : ∃ y, mvB rg ck = y := ⟨_, rfl⟩
            rw [hx, hy] at HCH hX
            have HX := Lib.hid hX
            have HW := Lib.hid hown
            have HBL2 := Lib.hid hbl
            have hbs2 := hbl.size
            have hob : ∀ q, wb.heap.size ≤ q → q < wr.heap.size → True := fun _ _ _ => trivial
            have HOB := Lib.hid (hown.lt)
            clear hown hX hx hy hcL hlL hob hbl hBw
            have hS0 : (wr.cell? ⟨bl, ol + k2 * 2, none⟩ = some (.int .i64 ra) ∧ wr.cell? ⟨bl, ol + k2 * 2 + 1, none⟩ = some (.int .i64 rg)) ∧ (wr.cell? ⟨gs, k2, none⟩ = some (.int .i64 sk) ∧ wr.cell? ⟨gc, k2, none⟩ = some (.int .i64 ck)) := ⟨⟨hra, hrg⟩, ⟨hsk, hck⟩⟩
            go_wp2_with fail
            go_region_held3 (fun W => (W.cell? ⟨bl, ol + k2 * 2, none⟩ = some (.int .i64 ra) ∧ W.cell? ⟨bl, ol + k2 * 2 + 1, none⟩ = some (.int .i64 rg)) ∧ (W.cell? ⟨gs, k2, none⟩ = some (.int .i64 sk) ∧ W.cell? ⟨gc, k2, none⟩ = some (.int .i64 ck))) (first | (with_reducible exact hS0) | (with_reducible exact bb4_drew hS0) | (with_reducible exact bb4_keep (by with_reducible assumption) (by with_reducible assumption)) | (with_reducible exact bb4_alloc (by with_reducible assumption) _) | (with_reducible assumption) | (exact bb4_grown (by with_reducible assumption) (by with_reducible assumption) (by intro e; have := HOB.out _ e.symm; omega) (by intro e; have := HOB.out _ e.symm; omega) (by intro e; have := HOB.out _ e.symm; omega))) (first
              | (go_at_call 41; (with_reducible refine Calls.mono (HCH.out _) ?_); rintro e w5 ⟨rfl, hb5⟩; have hz5 := hb5.size; (try simp only [World.size_alloc, World.size_drew] at hz5))
              | (refine step_append_sl _ rfl _ _ 43 rfl wb.heap.size 24 i1 _ 2 16 Try.underlying43 ti tz0 tz1 tz2 rfl (by decide) _ k2 (ol2.map (Value.int .i64)) rfl ((row_below (HW.out.drew) hb5).alloc _) (w5.heap.size + 1) _ 1 1 [.int .i64 x, .int .i64 y] rfl (Sl.built (by simp) (by simp) rfl) (by intro u hu; simp at hu; rcases hu with rfl | rfl <;> rfl) (by unfold maxLen; omega) (by omega) (by simp; omega) ?_; intro v' w6 hown6 hg6 _))
            all_goals
              have hbl := HBL2.out
              have hbn : Below wb.heap.size wb w6 := below_app2 (by (repeat' (first | (with_reducible exact Below.refl _ _) | (with_reducible assumption) | (with_reducible refine Below.alloc ?_ ?_ _) | (with_reducible refine Below.drew ?_) | (with_reducible refine belowDrewN ?_ _) | (with_reducible refine Below.setCell ?_ ?_ _) | (with_reducible refine Below.via (by with_reducible assumption) ?_ ?_) | (with_reducible refine Below.viaD (by with_reducible assumption) ?_ ?_) | (with_reducible exact Below.size (by with_reducible assumption)) | go_size | (with_reducible refine Nat.le_trans ?_ (Below.size (by with_reducible assumption))) | (with_reducible refine Nat.le_trans ?_ (sizeAlloc _ _)) | (with_reducible refine Nat.le_trans ?_ (sizeSet _ _ _)) | (with_reducible refine Nat.le_trans ?_ (sizeDrew _))))) ((row_below (HW.out.drew) hb5).alloc _) hg6 (Nat.le_refl _) (by simp; omega)
              have HO6 := Lib.hid hown6
              clear hown6 hg6 hb5 hS0
              go_wp2_with fail
              go_roundw
              case rel => exact ⟨k2 + 1, by omega, by go_num, by rw [HX.out, List.map_append]; exact HO6.out, hbn⟩
              case measure => first | (simp [intOf]; done) | (simp [intOf]; omega)
          · obtain rfl : k2 = n := by omega
            obtain ⟨A', g, cap, rfl, hg, _, _, hor⟩ := own_of_row hown
            have hBw := Below.via hbl HBL.out hbs
            clear hown
            go_wp2_with fail
            go_ret2
            exact ⟨A', g, cap, rfl, Nat.le_trans hbs hg, hor.own, hBw⟩
end Go.Proofs.Ytaeeijjejkohjaa
