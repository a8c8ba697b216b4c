/- RowsOf: both functions, and the law. No conditions beyond lengths. -/
import Derived.Test.YtencndbckjejaaaStand4
namespace Go.Proofs.Ytencndbckjejaaa
set_option linter.unusedSimpArgs false
set_option linter.unusedVariables false
open Go.RowKit

/-- What RowsOf returns: how many rows, the rows, the code. -/
def rowsR (n : Int) (vs : List Value) (c : Nat) : Nat × List Value × Int := if validMs n vs then (n.toNat, flatF n.toNat (F2 vs c c), 0) else (0, [], 1)
theorem tri {α : Type} {a a' : Nat} {x x' : α} {z z' : Int} (h : (a', x', z') = (a, x, z)) : a' = a ∧ x' = x ∧ z' = z := by
  injection h with h1 h2
  injection h2 with h3 h4
  exact ⟨h1, h3, h4⟩
theorem flatF_typ (n : Nat) (F : Nat → Nat → Int) : TypRow (flatF n F) n := by
  intro k hk
  have e : ∀ c, c < 6 → (flatF n F)[k * 6 + c]? = some (.int .i64 (F k c)) := fun c hc => by
    have := flatF_at F hk hc
    simpa only [List.getElem?_toArray] using this
  exact ⟨_, _, _, _, _, _, e 0 (by omega), e 1 (by omega), e 2 (by omega), e 3 (by omega), e 4 (by omega), e 5 (by omega)⟩
def RoPost (q : Nat) (L : List Value) (code : Int) (w : World) (e : Ending) (w' : World) : Prop :=
  ∃ (A : Option Addr) (g cap : Nat), e = .returned (.tuple #[.slice A q cap, .int .i64 code]) ∧ w.heap.size ≤ g ∧ OwnV w' g 67 6 A q L ∧ Below w.heap.size w w'
set_option maxRecDepth 100000 in
set_option maxHeartbeats 2000000 in
theorem RowsOf_any (n : Int) (A : Option Addr) (c cp : Nat) (vs : List Value) (w : World) (hs : Sl w w.heap.size 4 A c vs) (ht : TypMatch vs c) (hc : c ≤ 9223372036854775807) (q : Nat) (L : List Value) (code : Int) (hr : rowsR n vs c = (q, L, code)) :
    Calls Try.prog 27 #[.int .i64 n, .slice A c cp] w (RoPost q L code w) := by
  have HL := Lib.hid hs.len
  have HT := Lib.hid ht
  have HS := Lib.hid hs
  unfold rowsR at hr
  cases hv : validMs n vs
  case false =>
    rw [hv] at hr
    obtain ⟨rfl, rfl, rfl⟩ := tri hr
    clear hr
    go_enter Try.func27, Try.ntmps27
    go_wp2_with (go_at_call 13; refine (ValidMatches_any n A c cp vs _ hs HT.out hc).mono ?_; rintro e w1 ⟨rfl, hb1⟩; obtain ⟨hc1, hf1, hl1, hz1⟩ := bfacts hb1; (try simp only [World.size_alloc, World.size_setCell, World.size_drew] at hz1))
    go_ret2
    exact ⟨none, w.heap.size, 0, rfl, Nat.le_refl _, OwnV.none _ _ _ _ _, by (repeat' (first | (with_reducible exact Below.refl _ _) | (with_reducible assumption) | (with_reducible refine Below.alloc ?_ ?_ _) | (with_reducible refine Below.drew ?_) | (with_reducible refine belowDrewN ?_ _) | (with_reducible refine Below.setCell ?_ ?_ _) | (with_reducible refine Below.via (by with_reducible assumption) ?_ ?_) | (with_reducible refine Below.viaD (by with_reducible assumption) ?_ ?_) | (with_reducible exact Below.size (by with_reducible assumption)) | go_size | (with_reducible refine Nat.le_trans ?_ (Below.size (by with_reducible assumption))) | (with_reducible refine Nat.le_trans ?_ (sizeAlloc _ _)) | (with_reducible refine Nat.le_trans ?_ (sizeSet _ _ _)) | (with_reducible refine Nat.le_trans ?_ (sizeDrew _))))⟩
  case true =>
    rw [hv, if_pos rfl] at hr
    obtain ⟨m, rfl, k1, k2, hc150, hz⟩ := validMs_of HL.out hv
    rw [Int.toNat_natCast] at hr
    obtain ⟨rfl, rfl, rfl⟩ := tri hr
    have HZ : Hid (okMs vs c m) := hz
    clear hz ht hr hs
    go_enter Try.func27, Try.ntmps27
    go_wp2_with fail
    refine (ValidMatches_any m A c cp vs _ (HS.out) HT.out hc).mono ?_
    rw [hv]
    rintro e w1 ⟨rfl, hb1⟩
    have HB := Lib.hid hb1
    clear hb1
    go_wp2_with fail
    refine (rowsOf_any m A c cp vs _ (HS.out.later HB.out) HT.out k1 k2 hc150 HZ.out).mono ?_
    rintro e w2 ⟨rfl, hk2, hb2⟩
    go_wp2_with fail
    go_ret2
    exact ⟨_, w1.heap.size, m, rfl, HB.out.size, OwnV.of_blk hk2 (flatF_len _ _), Below.via hb2 HB.out HB.out.size⟩
set_option maxRecDepth 100000 in
set_option maxHeartbeats 2000000 in
theorem sRowsOf_any (n : Int) (A : Option Addr) (c cp : Nat) (vs : List Value) (w : World) (hs : Sl w w.heap.size 4 A c vs) (ht : TypMatch vs c) (hc : c ≤ 9223372036854775807) (q : Nat) (L : List Value) (code : Int) (hr : rowsR n vs c = (q, L, code)) :
    Calls Try.prog 26 #[.int .i64 n, .slice A c cp] w (RoPost q L code w) := by
  have HL := Lib.hid hs.len
  have HT := Lib.hid ht
  have HS := Lib.hid hs
  unfold rowsR at hr
  cases hv : validMs n vs
  case false =>
    rw [hv] at hr
    obtain ⟨rfl, rfl, rfl⟩ := tri hr
    clear hr
    go_enter Try.func26, Try.ntmps26
    go_wp2_with (go_at_call 37; refine (l26Ok_any n A c cp vs _ hs HT.out hc).mono ?_; rintro e w1 ⟨rfl, hb1⟩; obtain ⟨hc1, hf1, hl1, hz1⟩ := bfacts hb1; (try simp only [World.size_alloc, World.size_setCell, World.size_drew] at hz1))
    go_ret2
    exact ⟨none, w.heap.size, 0, rfl, Nat.le_refl _, OwnV.none _ _ _ _ _, by (repeat' (first | (with_reducible exact Below.refl _ _) | (with_reducible assumption) | (with_reducible refine Below.alloc ?_ ?_ _) | (with_reducible refine Below.drew ?_) | (with_reducible refine belowDrewN ?_ _) | (with_reducible refine Below.setCell ?_ ?_ _) | (with_reducible refine Below.via (by with_reducible assumption) ?_ ?_) | (with_reducible refine Below.viaD (by with_reducible assumption) ?_ ?_) | (with_reducible exact Below.size (by with_reducible assumption)) | go_size | (with_reducible refine Nat.le_trans ?_ (Below.size (by with_reducible assumption))) | (with_reducible refine Nat.le_trans ?_ (sizeAlloc _ _)) | (with_reducible refine Nat.le_trans ?_ (sizeSet _ _ _)) | (with_reducible refine Nat.le_trans ?_ (sizeDrew _))))⟩
  case true =>
    rw [hv, if_pos rfl] at hr
    obtain ⟨m, rfl, k1, k2, hc150, hz⟩ := validMs_of HL.out hv
    rw [Int.toNat_natCast] at hr
    obtain ⟨rfl, rfl, rfl⟩ := tri hr
    have HZ : Hid (okMs vs c m) := hz
    clear hz ht hr hs
    go_enter Try.func26, Try.ntmps26
    go_wp2_with fail
    refine (l26Ok_any m A c cp vs _ (HS.out) HT.out hc).mono ?_
    rw [hv]
    rintro e w1 ⟨rfl, hb1⟩
    have HB := Lib.hid hb1
    clear hb1
    go_wp2_with fail
    refine (l26Rows_any m A c cp vs _ (HS.out.later HB.out) HT.out k1 k2 hc150 HZ.out).mono ?_
    rintro e w2 ⟨g, cap, rfl, hg, ho, hb2⟩
    go_wp2_with fail
    go_ret2
    exact ⟨_, g, cap, rfl, Nat.le_trans HB.out.size hg, ho, Below.via hb2 HB.out HB.out.size⟩
set_option maxRecDepth 100000 in
set_option maxHeartbeats 2000000 in
theorem ro_walk (n : Int) (A : Option Addr) (c cp : Nat) (vs : List Value) (w : World) (hs : Sl w w.heap.size 4 A c vs) (hc : c ≤ 9223372036854775807) (ht : TypMatch vs c) : Calls Try.prog 7 #[.int .i64 n, .slice A c cp] w fun e w' => e = .returned (.bool true) ∧ Below w.heap.size w w' := by
  have HL := Lib.hid hs.len
  have HT := Lib.hid ht
  clear ht
  obtain ⟨q, L, code, hr⟩ : ∃ q L code, rowsR n vs c = (q, L, code) := ⟨_, _, _, rfl⟩
  have hq : q ≤ 12 ∧ TypRow L q := by
    unfold rowsR at hr
    cases hv : validMs n vs
    · rw [hv] at hr; obtain ⟨rfl, rfl, _⟩ := tri hr; exact ⟨by omega, fun k hk => absurd hk (by omega)⟩
    · obtain ⟨m, rfl, _, k2, _, _⟩ := validMs_of HL.out hv
      rw [hv, if_pos rfl, Int.toNat_natCast] at hr
      obtain ⟨rfl, rfl, _⟩ := tri hr
      exact ⟨k2, flatF_typ _ _⟩
  obtain ⟨hq, htm⟩ := hq
  have HR := Lib.hid hr
  clear hr
  by_cases hbig : (c : Int) ≤ 1048576
  case neg =>
    go_enter Try.func7, Try.ntmps7
    go_wp2_with (go_at_call 10; refine (szMatchS_gt A c cp 1048576 _ (by omega) (by omega) hc).mono ?_; rintro e w_ ⟨rfl, rfl⟩)
    go_ret
    exact ⟨rfl, by (repeat' (first | (with_reducible exact Below.refl _ _) | (with_reducible assumption) | (with_reducible refine Below.alloc ?_ ?_ _) | (with_reducible refine Below.drew ?_) | (with_reducible refine belowDrewN ?_ _) | (with_reducible refine Below.setCell ?_ ?_ _) | (with_reducible refine Below.via (by with_reducible assumption) ?_ ?_) | (with_reducible refine Below.viaD (by with_reducible assumption) ?_ ?_) | (with_reducible exact Below.size (by with_reducible assumption)) | go_size | (with_reducible refine Nat.le_trans ?_ (Below.size (by with_reducible assumption))) | (with_reducible refine Nat.le_trans ?_ (sizeAlloc _ _)) | (with_reducible refine Nat.le_trans ?_ (sizeSet _ _ _)) | (with_reducible refine Nat.le_trans ?_ (sizeDrew _))))⟩
  case pos =>
    have hc2 : c ≤ 1048576 := by omega
    have hcn : (code != code) = false := by simp
    have HTM := Lib.hid htm
    clear htm
    go_enter Try.func7, Try.ntmps7
    go_wp2_with (go_at_call 10; refine (szMatchS_le A c cp 1048576 _ (by omega) (by omega)).mono ?_; rintro e w_ ⟨rfl, rfl⟩)
    refine (toMatchS_any A c cp vs _ hs HT.out hc2).mono ?_
    rintro e w1 ⟨rfl, k1, b1⟩
    have s1 := k1.slV HL.out
    clear k1
    go_wp2_with fail
    refine (sRowsOf_any n _ c c vs _ s1 HT.out hc q L code HR.out).mono ?_
    rintro e w2 ⟨A0, g0, q0, rfl, hg0, o0, b2⟩
    go_wp2_with fail
    have s2 := (hs.later b1).later b2
    refine (toMatchS_any A c cp vs _ s2 HT.out hc2).mono ?_
    rintro e w3 ⟨rfl, k3, b3⟩
    have o3 : OwnV w3 w2.heap.size 54 4 (some ⟨w2.heap.size, 0, none⟩) c vs := OwnV.of_blk k3 HL.out
    have hgl := k3.lt
    clear k3
    go_wp2_with fail
    refine (RowsOf_any n _ c c vs _ o3.sl HT.out hc q L code HR.out).mono ?_
    rintro e w4 ⟨A1, g1, q1, rfl, hg1, o1, b4⟩
    have o4 := (o0.later b3).later b4
    go_wp2_with fail
    refine (eqRowS_same _ _ q q1 q0 L _ o1.sl o4.sl HTM.out (by omega)).mono ?_
    rintro e w5 ⟨rfl, b5⟩
    go_wp2_with fail
    have s4 := ((s2.later b3).later b4).later b5
    refine (toMatchS_any A c cp vs _ s4 HT.out hc2).mono ?_
    rintro e w6 ⟨rfl, k6, b6⟩
    have s6 := k6.slV HL.out
    clear k6
    go_wp2_with fail
    refine (eqMatchS_same _ _ c c c vs _ ((((o3.later b4).later b5).later b6).sl) s6 HT.out hc).mono ?_
    rintro e w7 ⟨rfl, b7⟩
    go_wp2_with fail
    refine (markMatchS_any _ c c _ vs 1 _ ((((o3.later b4).later b5).later b6).later b7) HT.out (by omega) (by omega) (by omega)).mono ?_
    rintro e w8 ⟨rfl, _, hgr8⟩
    have bw7 : Below w.heap.size w w7 := by (repeat' (first | (with_reducible exact Below.refl _ _) | (with_reducible assumption) | (with_reducible refine Below.alloc ?_ ?_ _) | (with_reducible refine Below.drew ?_) | (with_reducible refine belowDrewN ?_ _) | (with_reducible refine Below.setCell ?_ ?_ _) | (with_reducible refine Below.via (by with_reducible assumption) ?_ ?_) | (with_reducible refine Below.viaD (by with_reducible assumption) ?_ ?_) | (with_reducible exact Below.size (by with_reducible assumption)) | go_size | (with_reducible refine Nat.le_trans ?_ (Below.size (by with_reducible assumption))) | (with_reducible refine Nat.le_trans ?_ (sizeAlloc _ _)) | (with_reducible refine Nat.le_trans ?_ (sizeSet _ _ _)) | (with_reducible refine Nat.le_trans ?_ (sizeDrew _))))
    have z2 : w.heap.size ≤ w2.heap.size := Nat.le_trans b1.size b2.size
    have z3 := b4.size
    have z4 := Nat.le_trans (Nat.le_trans b5.size b6.size) b7.size
    have bw8 : Below w.heap.size w w8 := grown_below bw7 hgr8 z2 bw7.size
    have p1 := ((((o1.later b5).later b6).later b7).apart hgr8 (fun hn => by omega))
    have p0 := ((((o4.later b5).later b6).later b7).apart hgr8 (fun hn => by have := o0.lt hn; omega))
    have z8 := hgr8.size
    clear o3 s4 s6 s2 s1 hgr8 bw7
    go_wp2_with fail
    refine (eqRowS_same _ _ q q1 q0 L _ p1.sl p0.sl HTM.out (by omega)).mono ?_
    rintro e w9 ⟨rfl, b9⟩
    go_wp2_with fail
    refine (markRowS_any _ q q1 _ L 1 _ (p1.later b9) HTM.out (by omega) (by omega) (by omega)).mono ?_
    rintro e w10 ⟨rfl, r10, hgr10⟩
    have bw9 : Below w.heap.size w w9 := by (repeat' (first | (with_reducible exact Below.refl _ _) | (with_reducible assumption) | (with_reducible refine Below.alloc ?_ ?_ _) | (with_reducible refine Below.drew ?_) | (with_reducible refine belowDrewN ?_ _) | (with_reducible refine Below.setCell ?_ ?_ _) | (with_reducible refine Below.via (by with_reducible assumption) ?_ ?_) | (with_reducible refine Below.viaD (by with_reducible assumption) ?_ ?_) | (with_reducible exact Below.size (by with_reducible assumption)) | go_size | (with_reducible refine Nat.le_trans ?_ (Below.size (by with_reducible assumption))) | (with_reducible refine Nat.le_trans ?_ (sizeAlloc _ _)) | (with_reducible refine Nat.le_trans ?_ (sizeSet _ _ _)) | (with_reducible refine Nat.le_trans ?_ (sizeDrew _))))
    have bw10 : Below w.heap.size w w10 := grown_below bw9 hgr10 (by omega) bw9.size
    have p10 := (p0.later b9).apart hgr10 (fun hn => by have := o0.lt hn; omega)
    clear hgr10 p0 p1
    go_wp2_with fail
    refine (heldRowS_any _ q q1 1 _ r10.sl (by omega) (by omega) (by omega)).mono ?_
    rintro e w11 ⟨rfl, rfl⟩
    go_wp2_with fail
    refine (toMatchS_any A c cp vs _ (hs.later bw10) HT.out hc2).mono ?_
    rintro e w12 ⟨rfl, k12, b12⟩
    have s12 := k12.slV HL.out
    clear k12
    go_wp2_with fail
    refine (RowsOf_any n _ c c vs _ s12 HT.out hc q L code HR.out).mono ?_
    rintro e w13 ⟨A2, g2, q2, rfl, hg2, o2, b13⟩
    go_wp2_with fail
    refine (eqRowS_same _ _ q q2 q0 L _ o2.sl ((p10.later b12).later b13).sl HTM.out (by omega)).mono ?_
    rintro e w14 ⟨rfl, b14⟩
    go_wp2_with fail
    refine (heldRowS_any _ q q1 1 _ (((r10.later b12).later b13).later b14).sl (by omega) (by omega) (by omega)).mono ?_
    rintro e w15 ⟨rfl, rfl⟩
    go_wp2_with fail
    go_ret
    exact ⟨rfl, by (repeat' (first | (with_reducible exact Below.refl _ _) | (with_reducible assumption) | (with_reducible refine Below.alloc ?_ ?_ _) | (with_reducible refine Below.drew ?_) | (with_reducible refine belowDrewN ?_ _) | (with_reducible refine Below.setCell ?_ ?_ _) | (with_reducible refine Below.via (by with_reducible assumption) ?_ ?_) | (with_reducible refine Below.viaD (by with_reducible assumption) ?_ ?_) | (with_reducible exact Below.size (by with_reducible assumption)) | go_size | (with_reducible refine Nat.le_trans ?_ (Below.size (by with_reducible assumption))) | (with_reducible refine Nat.le_trans ?_ (sizeAlloc _ _)) | (with_reducible refine Nat.le_trans ?_ (sizeSet _ _ _)) | (with_reducible refine Nat.le_trans ?_ (sizeDrew _))))⟩
end Go.Proofs.Ytencndbckjejaaa
