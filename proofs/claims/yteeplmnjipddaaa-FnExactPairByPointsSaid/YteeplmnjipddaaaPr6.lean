/- PairByPoints: the law. -/
import Derived.Test.YteeplmnjipddaaaPr5
import Derived.Test.YteeplmnjipddaaaLists
import Derived.Test.YteeplmnjipddaaaInt64S
namespace Go.Proofs.Yteeplmnjipddaaa
set_option linter.unusedSimpArgs false
set_option linter.unusedVariables false
open Go.RowKit

theorem pbR_le {pts zs : List Int} {n c : Nat} {l : List Int} {q : Nat} {code : Int} (h : pbR pts zs n c = (l, q, code)) : q ≤ n := by
  unfold pbR at h
  split at h <;> (try split at h) <;> (injection h with h1 h2; injection h2 with h2 h3; omega)
set_option maxRecDepth 10000 in
set_option maxHeartbeats 2000000 in
theorem pb_walk (A1 : Option Addr) (n1 cp1 : Nat) (pts : List Int) (A : Option Addr) (c cp : Nat) (zs : List Int) (w : World) (hp : Sl w w.heap.size 1 A1 n1 (pts.map (Value.int .i64))) (hn : n1 ≤ 9223372036854775807) (hs : Sl w w.heap.size 2 A c (zs.map (Value.int .i64))) (hc : c ≤ 9223372036854775807) : Calls Try.prog 4 #[.slice A1 n1 cp1, .slice A c cp] w fun e w' => e = .returned (.bool true) ∧ Below w.heap.size w w' := by
  have HL : Hid (zs.length = c * 2) := by unfold Hid; have := hs.1; simpa using this
  have HLP : Hid (pts.length = n1) := by unfold Hid; have := hp.1; simpa using this
  by_cases hbig0 : (n1 : Int) ≤ 1048576
  case neg =>
    go_enter Try.func4, Try.ntmps4
    go_wp2_with fail
    go_ret
    exact ⟨rfl, by (repeat' (first | (with_reducible exact Below.refl _ _) | (with_reducible assumption) | (with_reducible refine Below.alloc ?_ ?_ _) | (with_reducible refine Below.drew ?_) | (with_reducible refine belowDrewN ?_ _) | (with_reducible refine Below.setCell ?_ ?_ _) | (with_reducible refine Below.via (by with_reducible assumption) ?_ ?_) | (with_reducible refine Below.viaD (by with_reducible assumption) ?_ ?_) | (with_reducible exact Below.size (by with_reducible assumption)) | go_size | (with_reducible refine Nat.le_trans ?_ (Below.size (by with_reducible assumption))) | (with_reducible refine Nat.le_trans ?_ (sizeAlloc _ _)) | (with_reducible refine Nat.le_trans ?_ (sizeSet _ _ _)) | (with_reducible refine Nat.le_trans ?_ (sizeDrew _))))⟩
  by_cases hbig : (c : Int) ≤ 1048576
  case neg =>
    go_enter Try.func4, Try.ntmps4
    go_wp2_with (go_at_call 15; refine (szMeetingS_gt A c cp 1048576 _ (by omega) (by omega) hc).mono ?_; rintro e w_ ⟨rfl, rfl⟩)
    go_ret
    exact ⟨rfl, by (repeat' (first | (with_reducible exact Below.refl _ _) | (with_reducible assumption) | (with_reducible refine Below.alloc ?_ ?_ _) | (with_reducible refine Below.drew ?_) | (with_reducible refine belowDrewN ?_ _) | (with_reducible refine Below.setCell ?_ ?_ _) | (with_reducible refine Below.via (by with_reducible assumption) ?_ ?_) | (with_reducible refine Below.viaD (by with_reducible assumption) ?_ ?_) | (with_reducible exact Below.size (by with_reducible assumption)) | go_size | (with_reducible refine Nat.le_trans ?_ (Below.size (by with_reducible assumption))) | (with_reducible refine Nat.le_trans ?_ (sizeAlloc _ _)) | (with_reducible refine Nat.le_trans ?_ (sizeSet _ _ _)) | (with_reducible refine Nat.le_trans ?_ (sizeDrew _))))⟩
  case pos =>
    have hn2 : n1 ≤ 1048576 := by omega
    have hc2 : c ≤ 1048576 := by omega
    obtain ⟨l, qc⟩ : ∃ x, pbR pts zs n1 c = x := ⟨_, rfl⟩
    obtain ⟨l, q, code⟩ := l
    have hq := pbR_le qc
    have HR := Lib.hid qc
    clear qc
    go_enter Try.func4, Try.ntmps4
    go_wp2_with (go_at_call 15; refine (szMeetingS_le A c cp 1048576 _ (by omega) (by omega)).mono ?_; rintro e w_ ⟨rfl, rfl⟩)
    refine (toInt64S_any A1 n1 cp1 pts _ hp hn2).mono ?_
    rintro e wa ⟨rfl, ka⟩
    have ba : Below w.heap.size w wa := by rw [ka]; exact Below.alloc (Below.refl _ _) (Nat.le_refl _) _
    have ia : Blk wa w.heap.size 2 (pts.map (Value.int .i64)).toArray := by rw [ka]; exact Blk.new _ _ _
    clear ka
    go_wp2_with fail
    refine (toMeetingS_any A c cp zs _ (hs.later ba) hc2).mono ?_
    rintro e w1 ⟨rfl, k1, b1⟩
    have s1 : Sl w1 w1.heap.size 2 (some ⟨wa.heap.size, 0, none⟩) c (zs.map (Value.int .i64)) := Blk.sl (rest := []) (by simpa using k1) HL.out
    have t1 : Sl w1 w1.heap.size 1 (some ⟨w.heap.size, 0, none⟩) n1 (pts.map (Value.int .i64)) := Blk.sl (rest := []) (by simpa using ia.later b1) (by have := HLP.out; simpa using this)
    clear k1 ia
    go_wp2_with fail
    refine (sPairByPoints_any _ n1 n1 pts _ c c zs _ t1 s1 hn hc l q code HR.out).mono ?_
    rintro e w2 ⟨A0, g0, q0, rfl, hg0, o0', b2⟩
    have o0 := o0'.own
    clear o0' t1 s1
    go_wp2_with fail
    have sp2 := ((hp.later ba).later b1).later b2
    have s2 := ((hs.later ba).later b1).later b2
    refine (toInt64S_any A1 n1 cp1 pts _ sp2 hn2).mono ?_
    rintro e wb ⟨rfl, kb⟩
    have bb : Below w2.heap.size w2 wb := by rw [kb]; exact Below.alloc (Below.refl _ _) (Nat.le_refl _) _
    have ib : Blk wb w2.heap.size 2 (pts.map (Value.int .i64)).toArray := by rw [kb]; exact Blk.new _ _ _
    have hlb := ib.lt
    clear kb
    have op : Own wb w2.heap.size 2 1 (some ⟨w2.heap.size, 0, none⟩) n1 pts := ⟨by have := HLP.out; omega, fun _ => ⟨rfl, [], by simpa using ib⟩⟩
    clear ib
    go_wp2_with fail
    refine (toMeetingS_any A c cp zs _ (s2.later bb) hc2).mono ?_
    rintro e w3 ⟨rfl, k3, b3⟩
    have o3 : Own w3 wb.heap.size 52 2 (some ⟨wb.heap.size, 0, none⟩) c zs := ⟨HL.out, fun _ => ⟨rfl, [], by simpa using k3⟩⟩
    have hgl := k3.lt
    clear k3
    go_wp2_with fail
    refine (PairByPoints_any _ n1 n1 pts _ c c zs _ (op.later b3).sl o3.sl hn hc l q code HR.out).mono ?_
    rintro e w4 ⟨A1', g1, q1, rfl, hg1, o1', b4⟩
    have o1 := o1'.own
    clear o1'
    have o4 := ((o0.later bb).later b3).later b4
    have hbeq := eqL_self l
    have hce : (code == code) = true := beq_self_eq_true code
    have hcn : (code != code) = false := by rw [bne, hce]; rfl
    go_wp2_with fail
    refine (eqMeetingS_any _ _ q q q1 q0 l l _ o1.sl o4.sl (by omega) (by omega)).mono ?_
    rintro e w5 ⟨rfl, b5⟩
    go_wp2_with fail
    have sp5 := (((sp2.later bb).later b3).later b4).later b5
    refine (toInt64S_any A1 n1 cp1 pts _ sp5 hn2).mono ?_
    rintro e wc ⟨rfl, kc⟩
    have bc : Below w5.heap.size w5 wc := by rw [kc]; exact Below.alloc (Below.refl _ _) (Nat.le_refl _) _
    have ic : Blk wc w5.heap.size 2 (pts.map (Value.int .i64)).toArray := by rw [kc]; exact Blk.new _ _ _
    clear kc
    have tc : Sl wc wc.heap.size 1 (some ⟨w5.heap.size, 0, none⟩) n1 (pts.map (Value.int .i64)) := Blk.sl (rest := []) (by simpa using ic) (by have := HLP.out; simpa using this)
    clear ic
    go_wp2_with fail
    have op6 := (((op.later b3).later b4).later b5).later bc
    refine (eqInt64S_any _ _ n1 n1 n1 n1 pts pts _ op6.sl tc (by omega) (by omega)).mono ?_
    rintro e wd ⟨rfl, bd⟩
    have hbp : (pts == pts) = true := beq_self_eq_true pts
    clear tc
    go_wp2_with fail
    have s6' := (((((s2.later bb).later b3).later b4).later b5).later bc).later bd
    refine (toMeetingS_any A c cp zs _ s6' hc2).mono ?_
    rintro e w6 ⟨rfl, k6, b6⟩
    have s6 : Sl w6 w6.heap.size 2 (some ⟨wd.heap.size, 0, none⟩) c (zs.map (Value.int .i64)) := Blk.sl (rest := []) (by simpa using k6) HL.out
    clear k6
    go_wp2_with fail
    have o36 := ((((o3.later b4).later b5).later bc).later bd).later b6
    refine (eqMeetingS_any _ _ c c c c zs zs _ o36.sl s6 hc hc).mono ?_
    rintro e w7 ⟨rfl, b7⟩
    have hbeq2 := eqL_self zs
    have o37 := o36.later b7
    have op7 := ((op6.later bd).later b6).later b7
    have p1a := ((((o1.later b5).later bc).later bd).later b6).later b7
    have p0a := ((((o4.later b5).later bc).later bd).later b6).later b7
    have bw7 : Below w.heap.size w w7 := by (repeat' (first | (with_reducible exact Below.refl _ _) | (with_reducible assumption) | (with_reducible refine Below.alloc ?_ ?_ _) | (with_reducible refine Below.drew ?_) | (with_reducible refine belowDrewN ?_ _) | (with_reducible refine Below.setCell ?_ ?_ _) | (with_reducible refine Below.via (by with_reducible assumption) ?_ ?_) | (with_reducible refine Below.viaD (by with_reducible assumption) ?_ ?_) | (with_reducible exact Below.size (by with_reducible assumption)) | go_size | (with_reducible refine Nat.le_trans ?_ (Below.size (by with_reducible assumption))) | (with_reducible refine Nat.le_trans ?_ (sizeAlloc _ _)) | (with_reducible refine Nat.le_trans ?_ (sizeSet _ _ _)) | (with_reducible refine Nat.le_trans ?_ (sizeDrew _))))
    have y1 : w.heap.size ≤ w2.heap.size := Nat.le_trans ba.size (Nat.le_trans b1.size b2.size)
    have y2 := bb.size
    have y3 := b3.size
    have y4 := b4.size
    have y5 : w4.heap.size ≤ w7.heap.size := Nat.le_trans b5.size (Nat.le_trans bc.size (Nat.le_trans bd.size (Nat.le_trans b6.size b7.size)))
    clear s6 s6' sp5 s2 sp2 o36 op6 o4 o3 op
    go_wp2_with fail
    -- the copies are marked: the results stay
    refine (markInt64S_any _ n1 n1 _ pts 1 _ op7 (by omega) (by omega) (by omega)).mono ?_
    rintro e w8 ⟨rfl, _, hgr8⟩
    have bw8 : Below w.heap.size w w8 := grown_below bw7 hgr8 y1 bw7.size
    have p1b := p1a.apart hgr8 (fun hn => by omega)
    have p0b := p0a.apart hgr8 (fun hn => by have := o0.lt hn; omega)
    have o38 := o37.apart hgr8 (fun hn => by omega)
    have z8 := hgr8.size
    clear hgr8 bw7 p1a p0a o37 op7
    go_wp2_with fail
    refine (markMeetingS_any _ c c _ zs _ _ o38 (by omega) (by omega) (by omega)).mono ?_
    rintro e w9 ⟨rfl, _, hgr9⟩
    have bw9 : Below w.heap.size w w9 := grown_below bw8 hgr9 (by omega) bw8.size
    have p1 := p1b.apart hgr9 (fun hn => by omega)
    have p0 := p0b.apart hgr9 (fun hn => by have := o0.lt hn; omega)
    have z9 := hgr9.size
    clear hgr9 bw8 p1b p0b o38
    go_wp2_with fail
    refine (eqMeetingS_any _ _ q q q1 q0 l l _ p1.sl p0.sl (by omega) (by omega)).mono ?_
    rintro e w10 ⟨rfl, b10⟩
    go_wp2_with fail
    refine (markMeetingS_any _ q q1 _ l 1 _ (p1.later b10) (by omega) (by omega) (by omega)).mono ?_
    rintro e w11 ⟨rfl, r11, hgr11⟩
    have bw10 : Below w.heap.size w w10 := by (repeat' (first | (with_reducible exact Below.refl _ _) | (with_reducible assumption) | (with_reducible refine Below.alloc ?_ ?_ _) | (with_reducible refine Below.drew ?_) | (with_reducible refine belowDrewN ?_ _) | (with_reducible refine Below.setCell ?_ ?_ _) | (with_reducible refine Below.via (by with_reducible assumption) ?_ ?_) | (with_reducible refine Below.viaD (by with_reducible assumption) ?_ ?_) | (with_reducible exact Below.size (by with_reducible assumption)) | go_size | (with_reducible refine Nat.le_trans ?_ (Below.size (by with_reducible assumption))) | (with_reducible refine Nat.le_trans ?_ (sizeAlloc _ _)) | (with_reducible refine Nat.le_trans ?_ (sizeSet _ _ _)) | (with_reducible refine Nat.le_trans ?_ (sizeDrew _))))
    have bw11 : Below w.heap.size w w11 := grown_below bw10 hgr11 (by omega) bw10.size
    have p11 := (p0.later b10).apart hgr11 (fun hn => by have := o0.lt hn; omega)
    clear hgr11 p0 p1
    go_wp2_with fail
    refine (heldMeetingS_any _ q q1 1 _ r11.sl (by omega) (by omega) (by omega)).mono ?_
    rintro e w12 ⟨rfl, rfl⟩
    go_wp2_with fail
    refine (toInt64S_any A1 n1 cp1 pts _ (hp.later bw11) hn2).mono ?_
    rintro e we ⟨rfl, ke⟩
    have be : Below w11.heap.size w11 we := by rw [ke]; exact Below.alloc (Below.refl _ _) (Nat.le_refl _) _
    have ie : Blk we w11.heap.size 2 (pts.map (Value.int .i64)).toArray := by rw [ke]; exact Blk.new _ _ _
    clear ke
    go_wp2_with fail
    refine (toMeetingS_any A c cp zs _ ((hs.later bw11).later be) hc2).mono ?_
    rintro e w13 ⟨rfl, k13, b13⟩
    have s13 : Sl w13 w13.heap.size 2 (some ⟨we.heap.size, 0, none⟩) c (zs.map (Value.int .i64)) := Blk.sl (rest := []) (by simpa using k13) HL.out
    have t13 : Sl w13 w13.heap.size 1 (some ⟨w11.heap.size, 0, none⟩) n1 (pts.map (Value.int .i64)) := Blk.sl (rest := []) (by simpa using ie.later b13) (by have := HLP.out; simpa using this)
    clear k13 ie
    go_wp2_with fail
    refine (PairByPoints_any _ n1 n1 pts _ c c zs _ t13 s13 hn hc l q code HR.out).mono ?_
    rintro e w14 ⟨A2, g2, q2, rfl, hg2, o2', b14⟩
    have o2 := o2'.own
    clear o2' s13 t13
    go_wp2_with fail
    refine (eqMeetingS_any _ _ q q q2 q0 l l _ o2.sl (((p11.later be).later b13).later b14).sl (by omega) (by omega)).mono ?_
    rintro e w15 ⟨rfl, b15⟩
    go_wp2_with fail
    refine (heldMeetingS_any _ q q1 1 _ ((((r11.later be).later b13).later b14).later b15).sl (by omega) (by omega) (by omega)).mono ?_
    rintro e w16 ⟨rfl, rfl⟩
    go_wp2_with fail
    go_ret
    exact ⟨rfl, by (repeat' (first | (with_reducible exact Below.refl _ _) | (with_reducible assumption) | (with_reducible refine Below.alloc ?_ ?_ _) | (with_reducible refine Below.drew ?_) | (with_reducible refine belowDrewN ?_ _) | (with_reducible refine Below.setCell ?_ ?_ _) | (with_reducible refine Below.via (by with_reducible assumption) ?_ ?_) | (with_reducible refine Below.viaD (by with_reducible assumption) ?_ ?_) | (with_reducible exact Below.size (by with_reducible assumption)) | go_size | (with_reducible refine Nat.le_trans ?_ (Below.size (by with_reducible assumption))) | (with_reducible refine Nat.le_trans ?_ (sizeAlloc _ _)) | (with_reducible refine Nat.le_trans ?_ (sizeSet _ _ _)) | (with_reducible refine Nat.le_trans ?_ (sizeDrew _))))⟩
end Go.Proofs.Yteeplmnjipddaaa
