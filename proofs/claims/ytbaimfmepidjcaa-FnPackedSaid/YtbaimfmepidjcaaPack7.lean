/- PackedSize: both functions and the law. No conditions. -/
import Derived.Test.YtbaimfmepidjcaaPack6
import Derived.Test.YtbaimfmepidjcaaLists
namespace Go.Proofs.Ytbaimfmepidjcaa
set_option linter.unusedSimpArgs false
set_option linter.unusedVariables false
open Go.RowKit Go.WideShapes

theorem Sl.copied_ {w : World} {zs : List Int} {n : Nat} (t : TypeId) (h : zs.length = n) : Sl (w.alloc (.cells (zs.map (Value.int .i64)).toArray t)) (w.alloc (.cells (zs.map (Value.int .i64)).toArray t)).heap.size 1 (some ⟨w.heap.size, 0, none⟩) n (zs.map (Value.int .i64)) :=
  Blk.sl (rest := []) (by rw [List.append_nil]; exact Blk.new _ _ _) (by omega)
def szV0 (zs : List Int) : Int := if okItems zs then ((packL zs).length : Nat) else 0
def szV1 (zs : List Int) : Int := if okItems zs then 0 else 2
set_option maxHeartbeats 1000000 in
theorem sPackedSize_any (A : Option Addr) (n c : Nat) (zs : List Int) (w : World) (hs : Sl w w.heap.size 1 A n (zs.map (Value.int .i64))) (hn : n ≤ 1048576) : Calls Try.prog 7 #[.slice A n c] w fun e w' => e = .returned (.tuple #[.int .i64 (szV0 zs), .int .i64 (szV1 zs)]) ∧ Below w.heap.size w w' := by
  cases hok : okItems zs
  case false =>
    have e0 : szV0 zs = 0 := by rw [szV0, hok]; rfl
    have e1 : szV1 zs = 2 := by rw [szV1, hok]; rfl
    rw [e0, e1]
    have HOK := Lib.hid hok
    clear hok e0 e1
    go_enter Try.func7, Try.ntmps7
    go_wp2_with (go_at_call 24; refine (l14Ok_any A n c zs _ hs hn).mono ?_; rintro e w_ ⟨rfl, rfl⟩; rw [HOK.out])
    go_ret2
    exact ⟨rfl, by (repeat' (first | (with_reducible exact Below.refl _ _) | (with_reducible assumption) | (with_reducible refine Below.alloc ?_ ?_ _) | (with_reducible refine Below.drew ?_) | (with_reducible refine belowDrewN ?_ _) | (with_reducible refine Below.setCell ?_ ?_ _) | (with_reducible refine Below.via (by with_reducible assumption) ?_ ?_) | (with_reducible refine Below.viaD (by with_reducible assumption) ?_ ?_) | (with_reducible exact Below.size (by with_reducible assumption)) | go_size | (with_reducible refine Nat.le_trans ?_ (Below.size (by with_reducible assumption))) | (with_reducible refine Nat.le_trans ?_ (sizeAlloc _ _)) | (with_reducible refine Nat.le_trans ?_ (sizeSet _ _ _)) | (with_reducible refine Nat.le_trans ?_ (sizeDrew _))))⟩
  case true =>
    have e0 : szV0 zs = ((packL zs).length : Nat) := by rw [szV0, hok]; rfl
    have e1 : szV1 zs = 0 := by rw [szV1, hok]; rfl
    rw [e0, e1]
    have HOK := Lib.hid hok
    have HSZ := Lib.hid (mk_size (packL zs))
    obtain ⟨q, hq⟩ : ∃ q : ByteArray, (⟨(packL zs).toArray⟩ : ByteArray) = q := ⟨_, rfl⟩
    have HQ := Lib.hid hq
    have HL : Hid (q.size = (packL zs).length) := by unfold Hid; rw [← hq]; exact mk_size _
    clear hok e0 e1 hq
    go_enter Try.func7, Try.ntmps7
    go_wp2_with (first | (go_at_call 24; refine (l14Ok_any A n c zs _ hs hn).mono ?_; rintro e w_ ⟨rfl, rfl⟩; rw [HOK.out]) | (go_at_call 25; refine (l14Pack_any A n c zs _ hs HOK.out).mono ?_; rw [HQ.out]; rintro e w1 ⟨rfl, hb1⟩))
    go_ret2
    exact ⟨by rw [← HL.out]; rfl, hb1⟩
set_option maxHeartbeats 1000000 in
theorem PackedSize_any (A : Option Addr) (n c : Nat) (zs : List Int) (w : World) (hs : Sl w w.heap.size 1 A n (zs.map (Value.int .i64))) (hn : n ≤ 1048576) : Calls Try.prog 9 #[.slice A n c] w fun e w' => e = .returned (.tuple #[.int .i64 (szV0 zs), .int .i64 (szV1 zs)]) ∧ Below w.heap.size w w' := by
  cases hok : okItems zs
  case false =>
    have e0 : szV0 zs = 0 := by rw [szV0, hok]; rfl
    have e1 : szV1 zs = 2 := by rw [szV1, hok]; rfl
    rw [e0, e1]
    have HP := Lib.hid (packV_no hok)
    clear hok e0 e1
    go_enter Try.func9, Try.ntmps9
    go_wp2_with fail
    refine (PackList_any A n c zs _ hs hn).mono ?_
    rw [HP.out]
    rintro e w1 ⟨rfl, hb1⟩
    go_wp2_with fail
    go_ret2
    exact ⟨rfl, hb1⟩
  case true =>
    have e0 : szV0 zs = ((packL zs).length : Nat) := by rw [szV0, hok]; rfl
    have e1 : szV1 zs = 0 := by rw [szV1, hok]; rfl
    rw [e0, e1]
    obtain ⟨q, hq⟩ : ∃ q : ByteArray, (⟨(packL zs).toArray⟩ : ByteArray) = q := ⟨_, rfl⟩
    have HP : Hid (packV zs = .tuple #[.string q, .int .i64 0]) := by unfold Hid; rw [packV_yes hok, hq]
    have HL : Hid (q.size = (packL zs).length) := by unfold Hid; rw [← hq]; exact mk_size _
    clear hok e0 e1 hq
    go_enter Try.func9, Try.ntmps9
    go_wp2_with fail
    refine (PackList_any A n c zs _ hs hn).mono ?_
    rw [HP.out]
    rintro e w1 ⟨rfl, hb1⟩
    go_wp2_with fail
    go_ret2
    exact ⟨by rw [← HL.out]; rfl, hb1⟩
set_option maxHeartbeats 1000000 in
theorem ps_walk (A : Option Addr) (n c : Nat) (zs : List Int) (w : World) (hs : Sl w w.heap.size 1 A n (zs.map (Value.int .i64))) (hn : n ≤ 9223372036854775807) : Calls Try.prog 3 #[.slice A n c] w fun e w' => e = .returned (.bool true) ∧ Below w.heap.size w w' := by
  by_cases hbig : 1048576 < n
  case pos =>
    go_enter Try.func3, Try.ntmps3
    go_wp2
    go_ret
    exact ⟨rfl, by (repeat' (first | (with_reducible exact Below.refl _ _) | (with_reducible assumption) | (with_reducible refine Below.alloc ?_ ?_ _) | (with_reducible refine Below.drew ?_) | (with_reducible refine belowDrewN ?_ _) | (with_reducible refine Below.setCell ?_ ?_ _) | (with_reducible refine Below.via (by with_reducible assumption) ?_ ?_) | (with_reducible refine Below.viaD (by with_reducible assumption) ?_ ?_) | (with_reducible exact Below.size (by with_reducible assumption)) | go_size | (with_reducible refine Nat.le_trans ?_ (Below.size (by with_reducible assumption))) | (with_reducible refine Nat.le_trans ?_ (sizeAlloc _ _)) | (with_reducible refine Nat.le_trans ?_ (sizeSet _ _ _)) | (with_reducible refine Nat.le_trans ?_ (sizeDrew _))))⟩
  case neg =>
    have hn2 : n ≤ 1048576 := by omega
    obtain ⟨r0, hr0⟩ : ∃ r, szV0 zs = r := ⟨_, rfl⟩
    obtain ⟨r1, hr1⟩ : ∃ r, szV1 zs = r := ⟨_, rfl⟩
    have HR0 := Lib.hid hr0
    have HR1 := Lib.hid hr1
    clear hbig hr0 hr1
    go_enter Try.func3, Try.ntmps3
    go_wp2_with fail
    refine (toInt64S_any A n c zs _ hs hn2).mono ?_
    rintro e w1 ⟨rfl, hw1⟩
    have b1 : Below w.heap.size w w1 := by rw [hw1]; (repeat' (first | (with_reducible exact Below.refl _ _) | (with_reducible assumption) | (with_reducible refine Below.alloc ?_ ?_ _) | (with_reducible refine Below.drew ?_) | (with_reducible refine belowDrewN ?_ _) | (with_reducible refine Below.setCell ?_ ?_ _) | (with_reducible refine Below.via (by with_reducible assumption) ?_ ?_) | (with_reducible refine Below.viaD (by with_reducible assumption) ?_ ?_) | (with_reducible exact Below.size (by with_reducible assumption)) | go_size | (with_reducible refine Nat.le_trans ?_ (Below.size (by with_reducible assumption))) | (with_reducible refine Nat.le_trans ?_ (sizeAlloc _ _)) | (with_reducible refine Nat.le_trans ?_ (sizeSet _ _ _)) | (with_reducible refine Nat.le_trans ?_ (sizeDrew _))))
    have s1 : Sl w1 w1.heap.size 1 (some ⟨w.heap.size, 0, none⟩) n (zs.map (Value.int .i64)) := by rw [hw1]; exact Sl.copied_ _ hs.ints
    clear hw1
    go_wp2_with fail
    refine (sPackedSize_any _ n n zs _ s1 hn2).mono ?_
    rw [HR0.out, HR1.out]
    rintro e w2 ⟨rfl, b2⟩
    go_wp2_with fail
    have s2 := (hs.later b1).later b2
    refine (toInt64S_any A n c zs _ s2 hn2).mono ?_
    rintro e w3 ⟨rfl, hw3⟩
    have b3 : Below w2.heap.size w2 w3 := by rw [hw3]; (repeat' (first | (with_reducible exact Below.refl _ _) | (with_reducible assumption) | (with_reducible refine Below.alloc ?_ ?_ _) | (with_reducible refine Below.drew ?_) | (with_reducible refine belowDrewN ?_ _) | (with_reducible refine Below.setCell ?_ ?_ _) | (with_reducible refine Below.via (by with_reducible assumption) ?_ ?_) | (with_reducible refine Below.viaD (by with_reducible assumption) ?_ ?_) | (with_reducible exact Below.size (by with_reducible assumption)) | go_size | (with_reducible refine Nat.le_trans ?_ (Below.size (by with_reducible assumption))) | (with_reducible refine Nat.le_trans ?_ (sizeAlloc _ _)) | (with_reducible refine Nat.le_trans ?_ (sizeSet _ _ _)) | (with_reducible refine Nat.le_trans ?_ (sizeDrew _))))
    have s3 : Sl w3 w3.heap.size 1 (some ⟨w2.heap.size, 0, none⟩) n (zs.map (Value.int .i64)) := by rw [hw3]; exact Sl.copied_ _ hs.ints
    clear hw3
    go_wp2_with fail
    refine (PackedSize_any _ n n zs _ s3 hn2).mono ?_
    rw [HR0.out, HR1.out]
    rintro e w4 ⟨rfl, b4⟩
    go_wp2_with fail
    refine (toInt64S_any A n c zs _ ((s2.later b3).later b4) hn2).mono ?_
    rintro e w5 ⟨rfl, hw5⟩
    have b5 : Below w4.heap.size w4 w5 := by rw [hw5]; (repeat' (first | (with_reducible exact Below.refl _ _) | (with_reducible assumption) | (with_reducible refine Below.alloc ?_ ?_ _) | (with_reducible refine Below.drew ?_) | (with_reducible refine belowDrewN ?_ _) | (with_reducible refine Below.setCell ?_ ?_ _) | (with_reducible refine Below.via (by with_reducible assumption) ?_ ?_) | (with_reducible refine Below.viaD (by with_reducible assumption) ?_ ?_) | (with_reducible exact Below.size (by with_reducible assumption)) | go_size | (with_reducible refine Nat.le_trans ?_ (Below.size (by with_reducible assumption))) | (with_reducible refine Nat.le_trans ?_ (sizeAlloc _ _)) | (with_reducible refine Nat.le_trans ?_ (sizeSet _ _ _)) | (with_reducible refine Nat.le_trans ?_ (sizeDrew _))))
    have s5 : Sl w5 w5.heap.size 1 (some ⟨w4.heap.size, 0, none⟩) n (zs.map (Value.int .i64)) := by rw [hw5]; exact Sl.copied_ _ hs.ints
    clear hw5
    go_wp2_with fail
    refine (eqInt64S_any _ _ n n n n zs zs _ ((s3.later b4).later b5) s5 hn hn).mono ?_
    rintro e w6 ⟨rfl, b6⟩
    have hbeq : (zs == zs) = true := beq_self_eq_true zs
    go_wp2_with fail
    go_ret
    exact ⟨rfl, by (repeat' (first | (with_reducible exact Below.refl _ _) | (with_reducible assumption) | (with_reducible refine Below.alloc ?_ ?_ _) | (with_reducible refine Below.drew ?_) | (with_reducible refine belowDrewN ?_ _) | (with_reducible refine Below.setCell ?_ ?_ _) | (with_reducible refine Below.via (by with_reducible assumption) ?_ ?_) | (with_reducible refine Below.viaD (by with_reducible assumption) ?_ ?_) | (with_reducible exact Below.size (by with_reducible assumption)) | go_size | (with_reducible refine Nat.le_trans ?_ (Below.size (by with_reducible assumption))) | (with_reducible refine Nat.le_trans ?_ (sizeAlloc _ _)) | (with_reducible refine Nat.le_trans ?_ (sizeSet _ _ _)) | (with_reducible refine Nat.le_trans ?_ (sizeDrew _))))⟩
end Go.Proofs.Ytbaimfmepidjcaa
