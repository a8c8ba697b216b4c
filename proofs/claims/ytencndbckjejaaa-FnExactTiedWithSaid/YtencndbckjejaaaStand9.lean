/- RanksOf: both functions, and the law. No conditions beyond lengths. -/
import Derived.Test.YtencndbckjejaaaStand8
import Derived.Test.YtencndbckjejaaaLists
import Derived.Test.YtencndbckjejaaaInt64S
namespace Go.Proofs.Ytencndbckjejaaa
set_option linter.unusedSimpArgs false
set_option linter.unusedVariables false
open Go.RowKit

def rkZ (F : Nat → Nat → Int) (n : Nat) : List Int := (List.range n).map fun a => 1 + cntB F a n
theorem rkZ_len (F : Nat → Nat → Int) (n : Nat) : (rkZ F n).length = n := by simp [rkZ]
theorem rkZ_map (F : Nat → Nat → Int) (n : Nat) : rkL F n n = (rkZ F n).map (Value.int .i64) := by simp [rkL, rkZ]
/-- What RanksOf returns. -/
def ranksR (n : Int) (vs : List Value) (c : Nat) : List Int × Int := if validMs n vs then (rkZ (F2 vs c c) n.toNat, 0) else ([], 1)
theorem prLI {x x' : List Int} {z z' : Int} (h : (x', z') = (x, z)) : x' = x ∧ z' = z := by
  injection h with h1 h2
  exact ⟨h1, h2⟩
def LiPost (l : List Int) (code : Int) (w : World) (e : Ending) (w' : World) : Prop :=
  ∃ (A : Option Addr) (g cap : Nat), e = .returned (.tuple #[.slice A l.length cap, .int .i64 code]) ∧ w.heap.size ≤ g ∧ OwnV w' g 2 1 A l.length (l.map (Value.int .i64)) ∧ Below w.heap.size w w'
theorem li_none (w w' : World) (code : Int) (hb : Below w.heap.size w w') : LiPost [] code w (.returned (.tuple #[.slice none 0 0, .int .i64 code])) w' := ⟨none, w.heap.size, 0, rfl, Nat.le_refl _, OwnV.none _ _ _ _ _, hb⟩
set_option maxRecDepth 100000 in
set_option maxHeartbeats 2000000 in
theorem RanksOf_any (n : Int) (A : Option Addr) (c cp : Nat) (vs : List Value) (w : World) (hs : Sl w w.heap.size 4 A c vs) (ht : TypMatch vs c) (hc : c ≤ 9223372036854775807) (l : List Int) (code : Int) (hr : ranksR n vs c = (l, code)) :
    Calls Try.prog 22 #[.int .i64 n, .slice A c cp] w (LiPost l code w) := by
  have HL := Lib.hid hs.len
  have HT := Lib.hid ht
  have HS := Lib.hid hs
  unfold ranksR at hr
  cases hv : validMs n vs
  case false =>
    rw [hv] at hr
    obtain ⟨rfl, rfl⟩ := prLI hr
    clear hr
    go_enter Try.func22, Try.ntmps22
    go_wp2_with (go_at_call 13; refine (ValidMatches_any n A c cp vs _ hs HT.out hc).mono ?_; rintro e w1 ⟨rfl, hb1⟩; obtain ⟨hc1, hf1, hl1, hz1⟩ := bfacts hb1; (try simp only [World.size_alloc, World.size_setCell, World.size_drew] at hz1))
    go_ret2
    exact li_none _ _ _ (by (repeat' (first | (with_reducible exact Below.refl _ _) | (with_reducible assumption) | (with_reducible refine Below.alloc ?_ ?_ _) | (with_reducible refine Below.drew ?_) | (with_reducible refine belowDrewN ?_ _) | (with_reducible refine Below.setCell ?_ ?_ _) | (with_reducible refine Below.via (by with_reducible assumption) ?_ ?_) | (with_reducible refine Below.viaD (by with_reducible assumption) ?_ ?_) | (with_reducible exact Below.size (by with_reducible assumption)) | go_size | (with_reducible refine Nat.le_trans ?_ (Below.size (by with_reducible assumption))) | (with_reducible refine Nat.le_trans ?_ (sizeAlloc _ _)) | (with_reducible refine Nat.le_trans ?_ (sizeSet _ _ _)) | (with_reducible refine Nat.le_trans ?_ (sizeDrew _)))))
  case true =>
    rw [hv, if_pos rfl] at hr
    obtain ⟨m, rfl, k1, k2, hc150, hz⟩ := validMs_of HL.out hv
    rw [Int.toNat_natCast] at hr
    obtain ⟨hl, rfl⟩ := prLI hr
    have HE := Lib.hid hl
    have HZ : Hid (okMs vs c m) := hz
    clear hz ht hr hs hl
    go_enter Try.func22, Try.ntmps22
    go_wp2_with fail
    refine (ValidMatches_any m A c cp vs _ (HS.out) HT.out hc).mono ?_
    rw [hv]
    rintro e w1 ⟨rfl, hb1⟩
    have HB := Lib.hid hb1
    clear hb1
    go_wp2_with fail
    refine (ranks_any m A c cp vs _ (HS.out.later HB.out) HT.out k1 k2 hc150 HZ.out).mono ?_
    rintro e w2 ⟨A', g, cap, rfl, hg, ho, hb2⟩
    go_wp2_with fail
    go_ret2
    have he := HE.out
    have hlen : l.length = m := by rw [← he, rkZ_len]
    exact ⟨A', g, cap, by rw [hlen]; rfl, Nat.le_trans HB.out.size hg, by rw [hlen, ← he, ← rkZ_map]; exact ho, Below.via hb2 HB.out HB.out.size⟩
set_option maxRecDepth 100000 in
set_option maxHeartbeats 2000000 in
theorem sRanksOf_any (n : Int) (A : Option Addr) (c cp : Nat) (vs : List Value) (w : World) (hs : Sl w w.heap.size 4 A c vs) (ht : TypMatch vs c) (hc : c ≤ 9223372036854775807) (l : List Int) (code : Int) (hr : ranksR n vs c = (l, code)) :
    Calls Try.prog 21 #[.int .i64 n, .slice A c cp] w (LiPost l code w) := by
  have HL := Lib.hid hs.len
  have HT := Lib.hid ht
  have HS := Lib.hid hs
  unfold ranksR at hr
  cases hv : validMs n vs
  case false =>
    rw [hv] at hr
    obtain ⟨rfl, rfl⟩ := prLI hr
    clear hr
    go_enter Try.func21, Try.ntmps21
    go_wp2_with (go_at_call 37; refine (l26Ok_any n A c cp vs _ hs HT.out hc).mono ?_; rintro e w1 ⟨rfl, hb1⟩; obtain ⟨hc1, hf1, hl1, hz1⟩ := bfacts hb1; (try simp only [World.size_alloc, World.size_setCell, World.size_drew] at hz1))
    go_ret2
    exact li_none _ _ _ (by (repeat' (first | (with_reducible exact Below.refl _ _) | (with_reducible assumption) | (with_reducible refine Below.alloc ?_ ?_ _) | (with_reducible refine Below.drew ?_) | (with_reducible refine belowDrewN ?_ _) | (with_reducible refine Below.setCell ?_ ?_ _) | (with_reducible refine Below.via (by with_reducible assumption) ?_ ?_) | (with_reducible refine Below.viaD (by with_reducible assumption) ?_ ?_) | (with_reducible exact Below.size (by with_reducible assumption)) | go_size | (with_reducible refine Nat.le_trans ?_ (Below.size (by with_reducible assumption))) | (with_reducible refine Nat.le_trans ?_ (sizeAlloc _ _)) | (with_reducible refine Nat.le_trans ?_ (sizeSet _ _ _)) | (with_reducible refine Nat.le_trans ?_ (sizeDrew _)))))
  case true =>
    rw [hv, if_pos rfl] at hr
    obtain ⟨m, rfl, k1, k2, hc150, hz⟩ := validMs_of HL.out hv
    rw [Int.toNat_natCast] at hr
    obtain ⟨hl, rfl⟩ := prLI hr
    have HE := Lib.hid hl
    have HZ : Hid (okMs vs c m) := hz
    clear hz ht hr hs hl
    go_enter Try.func21, Try.ntmps21
    go_wp2_with fail
    refine (l26Ok_any m A c cp vs _ (HS.out) HT.out hc).mono ?_
    rw [hv]
    rintro e w1 ⟨rfl, hb1⟩
    have HB := Lib.hid hb1
    clear hb1
    go_wp2_with fail
    refine (l26Ranks_any m A c cp vs _ (HS.out.later HB.out) HT.out k1 k2 hc150 HZ.out).mono ?_
    rintro e w2 ⟨A', g, cap, rfl, hg, ho, hb2⟩
    go_wp2_with fail
    go_ret2
    have he := HE.out
    have hlen : l.length = m := by rw [← he, rkZ_len]
    exact ⟨A', g, cap, by rw [hlen]; rfl, Nat.le_trans HB.out.size hg, by rw [hlen, ← he, ← rkZ_map]; exact ho, Below.via hb2 HB.out HB.out.size⟩
set_option maxRecDepth 100000 in
set_option maxHeartbeats 2000000 in
theorem rk_walk (n : Int) (A : Option Addr) (c cp : Nat) (vs : List Value) (w : World) (hs : Sl w w.heap.size 4 A c vs) (hc : c ≤ 9223372036854775807) (ht : TypMatch vs c) : Calls Try.prog 6 #[.int .i64 n, .slice A c cp] w fun e w' => e = .returned (.bool true) ∧ Below w.heap.size w w' := by
  have HL := Lib.hid hs.len
  have HT := Lib.hid ht
  clear ht
  obtain ⟨l, code, hr⟩ : ∃ l code, ranksR n vs c = (l, code) := ⟨_, _, rfl⟩
  have hq : l.length ≤ 12 := by
    unfold ranksR at hr
    cases hv : validMs n vs
    · rw [hv] at hr; obtain ⟨rfl, _⟩ := prLI hr; simp
    · obtain ⟨m, rfl, _, k2, _, _⟩ := validMs_of HL.out hv
      rw [hv, if_pos rfl, Int.toNat_natCast] at hr
      obtain ⟨rfl, _⟩ := prLI hr
      rw [rkZ_len]; exact k2
  have HR := Lib.hid hr
  clear hr
  by_cases hbig : (c : Int) ≤ 1048576
  case neg =>
    go_enter Try.func6, Try.ntmps6
    go_wp2_with (go_at_call 10; refine (szMatchS_gt A c cp 1048576 _ (by omega) (by omega) hc).mono ?_; rintro e w_ ⟨rfl, rfl⟩)
    go_ret
    exact ⟨rfl, by (repeat' (first | (with_reducible exact Below.refl _ _) | (with_reducible assumption) | (with_reducible refine Below.alloc ?_ ?_ _) | (with_reducible refine Below.drew ?_) | (with_reducible refine belowDrewN ?_ _) | (with_reducible refine Below.setCell ?_ ?_ _) | (with_reducible refine Below.via (by with_reducible assumption) ?_ ?_) | (with_reducible refine Below.viaD (by with_reducible assumption) ?_ ?_) | (with_reducible exact Below.size (by with_reducible assumption)) | go_size | (with_reducible refine Nat.le_trans ?_ (Below.size (by with_reducible assumption))) | (with_reducible refine Nat.le_trans ?_ (sizeAlloc _ _)) | (with_reducible refine Nat.le_trans ?_ (sizeSet _ _ _)) | (with_reducible refine Nat.le_trans ?_ (sizeDrew _))))⟩
  case pos =>
    have hc2 : c ≤ 1048576 := by omega
    have hcn : (code != code) = false := by simp
    have hbeq : (l == l) = true := beq_self_eq_true l
    go_enter Try.func6, Try.ntmps6
    go_wp2_with (go_at_call 10; refine (szMatchS_le A c cp 1048576 _ (by omega) (by omega)).mono ?_; rintro e w_ ⟨rfl, rfl⟩)
    refine (toMatchS_any A c cp vs _ hs HT.out hc2).mono ?_
    rintro e w1 ⟨rfl, k1, b1⟩
    have s1 := k1.slV HL.out
    clear k1
    go_wp2_with fail
    refine (sRanksOf_any n _ c c vs _ s1 HT.out hc l code HR.out).mono ?_
    rintro e w2 ⟨A0, g0, q0, rfl, hg0, o0, b2⟩
    go_wp2_with fail
    have s2 := (hs.later b1).later b2
    refine (toMatchS_any A c cp vs _ s2 HT.out hc2).mono ?_
    rintro e w3 ⟨rfl, k3, b3⟩
    have o3 : OwnV w3 w2.heap.size 54 4 (some ⟨w2.heap.size, 0, none⟩) c vs := OwnV.of_blk k3 HL.out
    have hgl := k3.lt
    clear k3
    go_wp2_with fail
    refine (RanksOf_any n _ c c vs _ o3.sl HT.out hc l code HR.out).mono ?_
    rintro e w4 ⟨A1, g1, q1, rfl, hg1, o1, b4⟩
    have o4 := (o0.later b3).later b4
    go_wp2_with fail
    refine (eqInt64S_any _ _ l.length l.length q1 q0 l l _ o1.sl o4.sl (by omega) (by omega)).mono ?_
    rintro e w5 ⟨rfl, b5⟩
    go_wp2_with fail
    have s4 := ((s2.later b3).later b4).later b5
    refine (toMatchS_any A c cp vs _ s4 HT.out hc2).mono ?_
    rintro e w6 ⟨rfl, k6, b6⟩
    have s6 := k6.slV HL.out
    clear k6
    go_wp2_with fail
    refine (eqMatchS_same _ _ c c c vs _ ((((o3.later b4).later b5).later b6).sl) s6 HT.out hc).mono ?_
    rintro e w7 ⟨rfl, b7⟩
    go_wp2_with fail
    refine (markMatchS_any _ c c _ vs 1 _ ((((o3.later b4).later b5).later b6).later b7) HT.out (by omega) (by omega) (by omega)).mono ?_
    rintro e w8 ⟨rfl, _, hgr8⟩
    have bw7 : Below w.heap.size w w7 := by (repeat' (first | (with_reducible exact Below.refl _ _) | (with_reducible assumption) | (with_reducible refine Below.alloc ?_ ?_ _) | (with_reducible refine Below.drew ?_) | (with_reducible refine belowDrewN ?_ _) | (with_reducible refine Below.setCell ?_ ?_ _) | (with_reducible refine Below.via (by with_reducible assumption) ?_ ?_) | (with_reducible refine Below.viaD (by with_reducible assumption) ?_ ?_) | (with_reducible exact Below.size (by with_reducible assumption)) | go_size | (with_reducible refine Nat.le_trans ?_ (Below.size (by with_reducible assumption))) | (with_reducible refine Nat.le_trans ?_ (sizeAlloc _ _)) | (with_reducible refine Nat.le_trans ?_ (sizeSet _ _ _)) | (with_reducible refine Nat.le_trans ?_ (sizeDrew _))))
    have z2 : w.heap.size ≤ w2.heap.size := Nat.le_trans b1.size b2.size
    have z3 := b4.size
    have z4 := Nat.le_trans (Nat.le_trans b5.size b6.size) b7.size
    have bw8 : Below w.heap.size w w8 := grown_below bw7 hgr8 z2 bw7.size
    have p1 := ((((o1.later b5).later b6).later b7).apart hgr8 (fun hn => by omega))
    have p0 := ((((o4.later b5).later b6).later b7).apart hgr8 (fun hn => by have := o0.lt hn; omega))
    have z8 := hgr8.size
    clear o3 s4 s6 s2 s1 hgr8 bw7
    go_wp2_with fail
    refine (eqInt64S_any _ _ l.length l.length q1 q0 l l _ p1.sl p0.sl (by omega) (by omega)).mono ?_
    rintro e w9 ⟨rfl, b9⟩
    go_wp2_with fail
    refine (markInt64S_any _ l.length q1 _ l 1 _ ((p1.later b9).own) (by omega) (by omega) (by omega)).mono ?_
    rintro e w10 ⟨rfl, r10, hgr10⟩
    have bw9 : Below w.heap.size w w9 := by (repeat' (first | (with_reducible exact Below.refl _ _) | (with_reducible assumption) | (with_reducible refine Below.alloc ?_ ?_ _) | (with_reducible refine Below.drew ?_) | (with_reducible refine belowDrewN ?_ _) | (with_reducible refine Below.setCell ?_ ?_ _) | (with_reducible refine Below.via (by with_reducible assumption) ?_ ?_) | (with_reducible refine Below.viaD (by with_reducible assumption) ?_ ?_) | (with_reducible exact Below.size (by with_reducible assumption)) | go_size | (with_reducible refine Nat.le_trans ?_ (Below.size (by with_reducible assumption))) | (with_reducible refine Nat.le_trans ?_ (sizeAlloc _ _)) | (with_reducible refine Nat.le_trans ?_ (sizeSet _ _ _)) | (with_reducible refine Nat.le_trans ?_ (sizeDrew _))))
    have bw10 : Below w.heap.size w w10 := grown_below bw9 hgr10 (by omega) bw9.size
    have p10 := (p0.later b9).apart hgr10 (fun hn => by have := o0.lt hn; omega)
    clear hgr10 p0 p1
    go_wp2_with fail
    refine (heldInt64S_any _ l.length q1 1 _ r10.sl (by omega) (by omega) (by omega)).mono ?_
    rintro e w11 ⟨rfl, rfl⟩
    go_wp2_with fail
    refine (toMatchS_any A c cp vs _ (hs.later bw10) HT.out hc2).mono ?_
    rintro e w12 ⟨rfl, k12, b12⟩
    have s12 := k12.slV HL.out
    clear k12
    go_wp2_with fail
    refine (RanksOf_any n _ c c vs _ s12 HT.out hc l code HR.out).mono ?_
    rintro e w13 ⟨A2, g2, q2, rfl, hg2, o2, b13⟩
    go_wp2_with fail
    refine (eqInt64S_any _ _ l.length l.length q2 q0 l l _ o2.sl ((p10.later b12).later b13).sl (by omega) (by omega)).mono ?_
    rintro e w14 ⟨rfl, b14⟩
    go_wp2_with fail
    refine (heldInt64S_any _ l.length q1 1 _ (((r10.later b12).later b13).later b14).sl (by omega) (by omega) (by omega)).mono ?_
    rintro e w15 ⟨rfl, rfl⟩
    go_wp2_with fail
    go_ret
    exact ⟨rfl, by (repeat' (first | (with_reducible exact Below.refl _ _) | (with_reducible assumption) | (with_reducible refine Below.alloc ?_ ?_ _) | (with_reducible refine Below.drew ?_) | (with_reducible refine belowDrewN ?_ _) | (with_reducible refine Below.setCell ?_ ?_ _) | (with_reducible refine Below.via (by with_reducible assumption) ?_ ?_) | (with_reducible refine Below.viaD (by with_reducible assumption) ?_ ?_) | (with_reducible exact Below.size (by with_reducible assumption)) | go_size | (with_reducible refine Nat.le_trans ?_ (Below.size (by with_reducible assumption))) | (with_reducible refine Nat.le_trans ?_ (sizeAlloc _ _)) | (with_reducible refine Nat.le_trans ?_ (sizeSet _ _ _)) | (with_reducible refine Nat.le_trans ?_ (sizeDrew _))))⟩
end Go.Proofs.Ytencndbckjejaaa
