/- RatingOrder: the law. -/
import Derived.Test.YteeplmnjipddaaaRo2
import Derived.Test.YteeplmnjipddaaaRatedS
import Derived.Test.YteeplmnjipddaaaLists
import Derived.Test.YteeplmnjipddaaaInt64S
namespace Go.Proofs.Yteeplmnjipddaaa
set_option linter.unusedSimpArgs false
set_option linter.unusedVariables false
open Go.RowKit

theorem roR_le {L l : List Int} {n q : Nat} {code : Int} (h : roR L n = (l, q, code)) : q ≤ n := by
  unfold roR at h
  split at h <;> (injection h with h1 h2; injection h2 with h2 h3; omega)
set_option maxRecDepth 10000 in
set_option maxHeartbeats 2000000 in
theorem ro_walk (A : Option Addr) (n cp : Nat) (L : List Int) (w : World) (hs : Sl w w.heap.size 2 A n (L.map (Value.int .i64))) (hn : n ≤ 9223372036854775807) : Calls Try.prog 3 #[.slice A n cp] w fun e w' => e = .returned (.bool true) ∧ Below w.heap.size w w' := by
  have HL : Hid (L.length = n * 2) := by unfold Hid; have := hs.1; simpa using this
  by_cases hbig : (n : Int) ≤ 1048576
  case neg =>
    go_enter Try.func3, Try.ntmps3
    go_wp2_with (go_at_call 6; refine (szRatedS_gt A n cp 1048576 _ (by omega) (by omega) hn).mono ?_; rintro e w_ ⟨rfl, rfl⟩)
    go_ret
    exact ⟨rfl, by (repeat' (first | (with_reducible exact Below.refl _ _) | (with_reducible assumption) | (with_reducible refine Below.alloc ?_ ?_ _) | (with_reducible refine Below.drew ?_) | (with_reducible refine belowDrewN ?_ _) | (with_reducible refine Below.setCell ?_ ?_ _) | (with_reducible refine Below.via (by with_reducible assumption) ?_ ?_) | (with_reducible refine Below.viaD (by with_reducible assumption) ?_ ?_) | (with_reducible exact Below.size (by with_reducible assumption)) | go_size | (with_reducible refine Nat.le_trans ?_ (Below.size (by with_reducible assumption))) | (with_reducible refine Nat.le_trans ?_ (sizeAlloc _ _)) | (with_reducible refine Nat.le_trans ?_ (sizeSet _ _ _)) | (with_reducible refine Nat.le_trans ?_ (sizeDrew _))))⟩
  case pos =>
    have hn2 : n ≤ 1048576 := by omega
    obtain ⟨l, qc⟩ : ∃ x, roR L n = x := ⟨_, rfl⟩
    obtain ⟨l, q, code⟩ := l
    have hq := roR_le qc
    have HR := Lib.hid qc
    clear qc
    go_enter Try.func3, Try.ntmps3
    go_wp2_with (go_at_call 6; refine (szRatedS_le A n cp 1048576 _ (by omega) (by omega)).mono ?_; rintro e w_ ⟨rfl, rfl⟩)
    refine (toRatedS_any A n cp L _ hs hn2).mono ?_
    rintro e w1 ⟨rfl, k1, b1⟩
    have s1 : Sl w1 w1.heap.size 2 (some ⟨w.heap.size, 0, none⟩) n (L.map (Value.int .i64)) := Blk.sl (rest := []) (by simpa using k1) HL.out
    clear k1
    go_wp2_with fail
    refine (sRatingOrder_any _ n n L _ s1 hn l q code HR.out).mono ?_
    rintro e w2 ⟨A0, g0, q0, rfl, hg0, o0', b2⟩
    have o0 := o0'.own
    clear o0' s1
    go_wp2_with fail
    have s2 := (hs.later b1).later b2
    refine (toRatedS_any A n cp L _ s2 hn2).mono ?_
    rintro e w3 ⟨rfl, k3, b3⟩
    have o3 : Own w3 w2.heap.size 55 2 (some ⟨w2.heap.size, 0, none⟩) n L := ⟨HL.out, fun _ => ⟨rfl, [], by simpa using k3⟩⟩
    have hgl := k3.lt
    clear k3
    go_wp2_with fail
    refine (RatingOrder_any _ n n L _ o3.sl hn l q code HR.out).mono ?_
    rintro e w4 ⟨A1', g1, q1, rfl, hg1, o1', b4⟩
    have o1 := o1'.own
    clear o1'
    have o4 := (o0.later b3).later b4
    have hbeq : (l == l) = true := beq_self_eq_true l
    have hce : (code == code) = true := beq_self_eq_true code
    have hcn : (code != code) = false := by rw [bne, hce]; rfl
    go_wp2_with fail
    refine (eqInt64S_any _ _ q q q1 q0 l l _ o1.sl o4.sl (by omega) (by omega)).mono ?_
    rintro e w5 ⟨rfl, b5⟩
    go_wp2_with fail
    have s5 := ((s2.later b3).later b4).later b5
    refine (toRatedS_any A n cp L _ s5 hn2).mono ?_
    rintro e w6 ⟨rfl, k6, b6⟩
    have s6 : Sl w6 w6.heap.size 2 (some ⟨w5.heap.size, 0, none⟩) n (L.map (Value.int .i64)) := Blk.sl (rest := []) (by simpa using k6) HL.out
    clear k6
    go_wp2_with fail
    have o36 := ((o3.later b4).later b5).later b6
    refine (eqRatedS_any _ _ n n n n L L _ o36.sl s6 hn hn).mono ?_
    rintro e w7 ⟨rfl, b7⟩
    have hbeq2 := eqL_self L
    have o37 := o36.later b7
    have p1a := ((o1.later b5).later b6).later b7
    have p0a := ((o4.later b5).later b6).later b7
    have bw7 : Below w.heap.size w w7 := by (repeat' (first | (with_reducible exact Below.refl _ _) | (with_reducible assumption) | (with_reducible refine Below.alloc ?_ ?_ _) | (with_reducible refine Below.drew ?_) | (with_reducible refine belowDrewN ?_ _) | (with_reducible refine Below.setCell ?_ ?_ _) | (with_reducible refine Below.via (by with_reducible assumption) ?_ ?_) | (with_reducible refine Below.viaD (by with_reducible assumption) ?_ ?_) | (with_reducible exact Below.size (by with_reducible assumption)) | go_size | (with_reducible refine Nat.le_trans ?_ (Below.size (by with_reducible assumption))) | (with_reducible refine Nat.le_trans ?_ (sizeAlloc _ _)) | (with_reducible refine Nat.le_trans ?_ (sizeSet _ _ _)) | (with_reducible refine Nat.le_trans ?_ (sizeDrew _))))
    have y1 : w.heap.size ≤ w2.heap.size := Nat.le_trans b1.size b2.size
    have y3 := b3.size
    have y4 := b4.size
    have y5 : w4.heap.size ≤ w7.heap.size := Nat.le_trans b5.size (Nat.le_trans b6.size b7.size)
    clear s6 s5 s2 o36 o4 o3
    go_wp2_with fail
    refine (markRatedS_any _ n n _ L 1 _ o37 (by omega) (by omega) (by omega)).mono ?_
    rintro e w9 ⟨rfl, _, hgr9⟩
    have bw9 : Below w.heap.size w w9 := grown_below bw7 hgr9 (by omega) bw7.size
    have p1 := p1a.apart hgr9 (fun hn => by omega)
    have p0 := p0a.apart hgr9 (fun hn => by have := o0.lt hn; omega)
    have z9 := hgr9.size
    clear hgr9 bw7 p1a p0a o37
    go_wp2_with fail
    refine (eqInt64S_any _ _ q q q1 q0 l l _ p1.sl p0.sl (by omega) (by omega)).mono ?_
    rintro e w10 ⟨rfl, b10⟩
    go_wp2_with fail
    refine (markInt64S_any _ q q1 _ l 1 _ (p1.later b10) (by omega) (by omega) (by omega)).mono ?_
    rintro e w11 ⟨rfl, r11, hgr11⟩
    have bw10 : Below w.heap.size w w10 := by (repeat' (first | (with_reducible exact Below.refl _ _) | (with_reducible assumption) | (with_reducible refine Below.alloc ?_ ?_ _) | (with_reducible refine Below.drew ?_) | (with_reducible refine belowDrewN ?_ _) | (with_reducible refine Below.setCell ?_ ?_ _) | (with_reducible refine Below.via (by with_reducible assumption) ?_ ?_) | (with_reducible refine Below.viaD (by with_reducible assumption) ?_ ?_) | (with_reducible exact Below.size (by with_reducible assumption)) | go_size | (with_reducible refine Nat.le_trans ?_ (Below.size (by with_reducible assumption))) | (with_reducible refine Nat.le_trans ?_ (sizeAlloc _ _)) | (with_reducible refine Nat.le_trans ?_ (sizeSet _ _ _)) | (with_reducible refine Nat.le_trans ?_ (sizeDrew _))))
    have bw11 : Below w.heap.size w w11 := grown_below bw10 hgr11 (by omega) bw10.size
    have p11 := (p0.later b10).apart hgr11 (fun hn => by have := o0.lt hn; omega)
    clear hgr11 p0 p1
    go_wp2_with fail
    refine (heldInt64S_any _ q q1 1 _ r11.sl (by omega) (by omega) (by omega)).mono ?_
    rintro e w12 ⟨rfl, rfl⟩
    go_wp2_with fail
    refine (toRatedS_any A n cp L _ (hs.later bw11) hn2).mono ?_
    rintro e w13 ⟨rfl, k13, b13⟩
    have s13 : Sl w13 w13.heap.size 2 (some ⟨w11.heap.size, 0, none⟩) n (L.map (Value.int .i64)) := Blk.sl (rest := []) (by simpa using k13) HL.out
    clear k13
    go_wp2_with fail
    refine (RatingOrder_any _ n n L _ s13 hn l q code HR.out).mono ?_
    rintro e w14 ⟨A2, g2, q2, rfl, hg2, o2', b14⟩
    have o2 := o2'.own
    clear o2' s13
    go_wp2_with fail
    refine (eqInt64S_any _ _ q q q2 q0 l l _ o2.sl ((p11.later b13).later b14).sl (by omega) (by omega)).mono ?_
    rintro e w15 ⟨rfl, b15⟩
    go_wp2_with fail
    refine (heldInt64S_any _ q q1 1 _ (((r11.later b13).later b14).later b15).sl (by omega) (by omega) (by omega)).mono ?_
    rintro e w16 ⟨rfl, rfl⟩
    go_wp2_with fail
    go_ret
    exact ⟨rfl, by (repeat' (first | (with_reducible exact Below.refl _ _) | (with_reducible assumption) | (with_reducible refine Below.alloc ?_ ?_ _) | (with_reducible refine Below.drew ?_) | (with_reducible refine belowDrewN ?_ _) | (with_reducible refine Below.setCell ?_ ?_ _) | (with_reducible refine Below.via (by with_reducible assumption) ?_ ?_) | (with_reducible refine Below.viaD (by with_reducible assumption) ?_ ?_) | (with_reducible exact Below.size (by with_reducible assumption)) | go_size | (with_reducible refine Nat.le_trans ?_ (Below.size (by with_reducible assumption))) | (with_reducible refine Nat.le_trans ?_ (sizeAlloc _ _)) | (with_reducible refine Nat.le_trans ?_ (sizeSet _ _ _)) | (with_reducible refine Nat.le_trans ?_ (sizeDrew _))))⟩
end Go.Proofs.Yteeplmnjipddaaa
