/- FnPacked: the law. No conditions. -/
import Derived.Test.YtbaimfmepidjcaaRunL
import Derived.Test.YtbaimfmepidjcaaPackQ
import Derived.Test.YtbaimfmepidjcaaPack7
import Derived.Test.YtbaimfmepidjcaaPack11
import Derived.Test.YtbaimfmepidjcaaMarkRow
import Derived.Laws.BitsAllLaws
namespace Go.Proofs.Ytbaimfmepidjcaa
set_option linter.unusedSimpArgs false
set_option linter.unusedVariables false
open Go.RowKit Go.WideShapes

theorem RowB.at_ {w : World} {base : Nat} {e : TypeId} {v : Value} {n : Nat} {l : List UInt8} (h : RowB w base e v n (bV l)) {k : Nat} (hk : k < l.length) : ∃ g cap, v = .slice (some ⟨g, 0, none⟩) n cap ∧ base ≤ g ∧ g < w.heap.size ∧ w.cell? ⟨g, k, none⟩ = some (.int .u8 (l[k].toNat : Int)) ∧ w.frozen? ⟨g, k, none⟩ = false ∧ ∀ b : UInt8, RowB (w.setCell ⟨g, k, none⟩ (.int .u8 (b.toNat : Int))) base e v n (bV (l.set k b)) := by
  obtain ⟨hl, g, cap, cur, fz, rfl, hb, hg, hfz, hnc, hcm, hcs, ht⟩ := h
  have hl' : l.length = n := by rw [← hl, bV_len]
  have hcell : w.cell? ⟨g, k, none⟩ = some (.int .u8 (l[k].toNat : Int)) := by
    rw [cell_of_row w g k cur e fz hg]
    have h1 : (bV l)[k]? = some (.int .u8 (l[k].toNat : Int)) := by rw [bV, List.getElem?_map, List.getElem?_eq_getElem hk]; rfl
    rw [← ht, List.getElem?_take] at h1
    split at h1
    · simpa using h1
    · cases h1
  refine ⟨g, cap, rfl, hb, (Array.getElem?_eq_some_iff.1 hg).1, hcell, ?_, fun b => ?_⟩
  · obtain ⟨lo, hi'⟩ := fz
    have := hfz k (by omega)
    simpa [World.frozen?, hg] using this
  · rw [setCell_eq_setRow w g k cur e fz _ hg]
    refine ⟨by rw [bV_len, List.length_set]; exact hl', g, cap, _, fz, rfl, hb, setRow_heap w g cur _ e fz hg, fun j hj => hfz j (by simpa using hj), hnc, hcm, by simpa using hcs, ?_⟩
    rw [Array.toList_setIfInBounds, List.take_set, ht, bV, bV, List.map_set]
theorem xor_byte {a b : Nat} (ha : a < 256) (hb : b < 256) (h : b ≠ 0) : a ^^^ b < 256 ∧ a ^^^ b ≠ a := by
  refine ⟨Nat.xor_lt_two_pow (n := 8) ha hb, fun he => h ?_⟩
  have := congrArg (a ^^^ ·) he
  simpa [← Nat.xor_assoc] using this
set_option maxRecDepth 100000 in
set_option maxHeartbeats 4000000 in
theorem packed_walk (A0 : Option Addr) (n0 c0 : Nat) (zs0 : List Int) (A1 : Option Addr) (n1 c1 : Nat) (zs1 : List Int) (w : World) (hs0 : Sl w w.heap.size 1 A0 n0 (zs0.map (Value.int .u8))) (hm0 : n0 ≤ 9223372036854775807) (hb0 : ∀ z ∈ zs0, 0 ≤ z ∧ z ≤ 255) (hs1 : Sl w w.heap.size 1 A1 n1 (zs1.map (Value.int .u8))) (hm1 : n1 ≤ 9223372036854775807) (hb1 : ∀ z ∈ zs1, 0 ≤ z ∧ z ≤ 255) :
    Calls Try.prog 5 #[.slice A0 n0 c0, .slice A1 n1 c1] w fun e w' => e = .returned (.bool true) ∧ Below w.heap.size w w' := by
  have HB0 := Lib.hid hb0
  have HB1 := Lib.hid hb1
  have HS1 := Lib.hid hs1
  have HS0 := Lib.hid hs0
  clear hb0 hb1 hs1 hs0
  go_enter Try.func5, Try.ntmps5
  go_wp2_with fail
  refine (a2Long_any _ _ _ _ _ _ _).mono ?_
  rintro e w_ ⟨q, rfl, hq, rfl⟩
  cases q
  case true =>
    go_wp2
    go_ret
    exact ⟨rfl, by (repeat' (first | (with_reducible exact Below.refl _ _) | (with_reducible assumption) | (with_reducible refine Below.alloc ?_ ?_ _) | (with_reducible refine Below.drew ?_) | (with_reducible refine belowDrewN ?_ _) | (with_reducible refine Below.setCell ?_ ?_ _) | (with_reducible refine Below.via (by with_reducible assumption) ?_ ?_) | (with_reducible refine Below.viaD (by with_reducible assumption) ?_ ?_) | (with_reducible exact Below.size (by with_reducible assumption)) | go_size | (with_reducible refine Nat.le_trans ?_ (Below.size (by with_reducible assumption))) | (with_reducible refine Nat.le_trans ?_ (sizeAlloc _ _)) | (with_reducible refine Nat.le_trans ?_ (sizeSet _ _ _)) | (with_reducible refine Nat.le_trans ?_ (sizeDrew _))))⟩
  case false =>
    obtain ⟨h0, h1⟩ := hq rfl
    clear hq
    go_wp2_with fail
    refine (A2List_any A0 n0 c0 zs0 _ HS0.out HB0.out (by omega)).mono ?_
    rintro e w1 ⟨v, zs, rfl, ho, hit, hlen, b1⟩
    have HOK := Lib.hid (okItems_of hit hlen)
    obtain ⟨A, g, cap, rfl, hg, hcap, hcapm, hov⟩ := own_of_row ho
    have HZ : Hid (Sl w1 w1.heap.size 1 A zs.length (zs.map (Value.int .i64))) := hov.sl
    clear ho hov hit hcap hcapm
    obtain ⟨n, hn⟩ : ∃ n, zs.length = n := ⟨_, rfl⟩
    rw [hn] at HZ hlen
    have HN := Lib.hid hn
    rw [hn]
    clear hn
    -- the packed text
    obtain ⟨T, hT⟩ : ∃ T, packL zs = T := ⟨_, rfl⟩
    have hT3 := pack_len zs HOK.out
    rw [hT] at hT3
    obtain ⟨S, hS⟩ : ∃ S : ByteArray, (⟨T.toArray⟩ : ByteArray) = S := ⟨_, rfl⟩
    have hSz : S.size = T.length := by rw [← hS, mk_size]
    have hSd : S.data.toList = T := by rw [← hS]
    have HPK : Hid (∀ W : World, ∀ c, Sl W W.heap.size 1 A n (zs.map (Value.int .i64)) → Calls Try.prog 19 #[.slice A n c] W fun e w' => e = .returned (.tuple #[.string S, .int .i64 0]) ∧ Below W.heap.size W w') := fun W c hW => by
      have h := PackList_any A n c zs W hW (by omega)
      rw [packV_yes HOK.out, hT, hS] at h
      exact h
    have HTM : Hid (T.length ≤ 100000) := by
      have hrc := runs_count HOK.out
      have h := (bodyK_len hrc.1 (runs_items HOK.out) _ (Nat.le_refl _)).2
      rw [bodyK_all] at h
      unfold Hid
      rw [← hT]
      simp only [packL, tailL, List.length_append, List.length_cons, List.length_nil]
      omega
    have hTM := HTM.out
    have HUN : Hid (∀ W : World, Calls Try.prog 20 #[.string S] W (UPost (some zs) W)) := fun W => by
      have h := UnpackList_any S W (by omega)
      rw [hSd, pickI_iff.2 ⟨HOK.out, hT⟩] at h
      exact h
    have HPS : Hid (∀ W : World, ∀ c, Sl W W.heap.size 1 A n (zs.map (Value.int .i64)) → Calls Try.prog 9 #[.slice A n c] W fun e w' => e = .returned (.tuple #[.int .i64 (T.length : Nat), .int .i64 0]) ∧ Below W.heap.size W w') := fun W c hW => by
      have h := PackedSize_any A n c zs W hW (by omega)
      rw [szV0, szV1, HOK.out, if_pos rfl, if_pos rfl, hT] at h
      exact h
    have HCH : Hid (∀ (i : Nat) (b : UInt8) (hi : i < T.length), b ≠ T[i] → ∀ W : World, Calls Try.prog 20 #[.string ⟨(T.set i b).toArray⟩] W fun e w' => e = .returned (.tuple #[.slice none 0 0, .int .i64 8]) ∧ Below W.heap.size W w') := fun i b hi hb W => by
      subst hT
      have h := UnpackList_any ⟨((packL zs).set i b).toArray⟩ W (by rw [mk_size, List.length_set]; omega)
      rw [mk_list, pick_changed hi hb] at h
      exact h.mono fun e w' h => ⟨h.2.1 rfl, h.2.2⟩
    have hcb := fun W => run_bytes_of_string (P := Try.prog) W 9 28 5 S Try.underlying9 Try.underlying28 Try.underlying5
    have HRB : Hid (∀ W : World, RowB (W.drew.alloc (.cells (bytesRow S (grownCap W T.length 0 5)) 5 ((bytesRow S (grownCap W T.length 0 5)).size, (bytesRow S (grownCap W T.length 0 5)).size + 1))) W.heap.size 5 (.slice (some ⟨W.heap.size, 0, none⟩) T.length (grownCap W T.length 0 5)) T.length (bV T)) := fun W => by
      have h := rowB_conv (w := W) (base := W.heap.size) 5 S (Nat.le_refl _) (by unfold maxLen; omega)
      rw [hSd, hSz] at h
      exact h
    have HSZ := Lib.hid hSz
    clear hT hS hSd hcb
    go_wp2_with fail
    refine (HPK.out _ _ HZ.out).mono ?_
    rintro e w2 ⟨rfl, b2⟩
    go_wp2_with fail
    refine (HUN.out _).mono ?_
    rintro e w3 ⟨u1, -, b3⟩
    obtain ⟨v3, rfl, ho3⟩ := u1 zs rfl
    obtain ⟨A3, g3, cap3, rfl, hg3, hcap3, hcapm3, hov3⟩ := own_of_row ho3
    rw [HN.out] at hov3 ⊢
    have HY : Hid (Sl w3 w3.heap.size 1 A3 n (zs.map (Value.int .i64))) := hov3.sl
    clear u1 ho3 hov3 hcap3 hcapm3
    go_wp2_with fail
    have HZ3 := Lib.hid ((HZ.out.later b2).later b3)
    refine (HPS.out _ cap HZ3.out).mono ?_
    rintro e w4 ⟨rfl, b4⟩
    have HZ4 := Lib.hid (HZ3.out.later b4)
    have HY4 := Lib.hid (HY.out.later b4)
    have bw4 : Below w.heap.size w w4 := by (repeat' (first | (with_reducible exact Below.refl _ _) | (with_reducible assumption) | (with_reducible refine Below.alloc ?_ ?_ _) | (with_reducible refine Below.drew ?_) | (with_reducible refine belowDrewN ?_ _) | (with_reducible refine Below.setCell ?_ ?_ _) | (with_reducible refine Below.via (by with_reducible assumption) ?_ ?_) | (with_reducible refine Below.viaD (by with_reducible assumption) ?_ ?_) | (with_reducible exact Below.size (by with_reducible assumption)) | go_size | (with_reducible refine Nat.le_trans ?_ (Below.size (by with_reducible assumption))) | (with_reducible refine Nat.le_trans ?_ (sizeAlloc _ _)) | (with_reducible refine Nat.le_trans ?_ (sizeSet _ _ _)) | (with_reducible refine Nat.le_trans ?_ (sizeDrew _))))
    clear HZ3 HY HZ b1 b2 b3 b4
    have hcb := fun W => run_bytes_of_string (P := Try.prog) W 9 28 5 S Try.underlying9 Try.underlying28 Try.underlying5
    go_wp2_with fail
    obtain ⟨w6, R6, b6, h6⟩ : ∃ w6 : World, RowB w6 w4.heap.size 5 (.slice (some ⟨w4.heap.size, 0, none⟩) T.length (grownCap w4 T.length 0 5)) T.length (bV T) ∧ Below w4.heap.size w4 w6 ∧ (w4.alloc (.cells (bytesRow S (grownCap w4 T.length 0 5)) 5 ((bytesRow S (grownCap w4 T.length 0 5)).size, (bytesRow S (grownCap w4 T.length 0 5)).size + 1))).drew = w6 := ⟨_, HRB.out w4, by (repeat' (first | (with_reducible exact Below.refl _ _) | (with_reducible assumption) | (with_reducible refine Below.alloc ?_ ?_ _) | (with_reducible refine Below.drew ?_) | (with_reducible refine belowDrewN ?_ _) | (with_reducible refine Below.setCell ?_ ?_ _) | (with_reducible refine Below.via (by with_reducible assumption) ?_ ?_) | (with_reducible refine Below.viaD (by with_reducible assumption) ?_ ?_) | (with_reducible exact Below.size (by with_reducible assumption)) | go_size | (with_reducible refine Nat.le_trans ?_ (Below.size (by with_reducible assumption))) | (with_reducible refine Nat.le_trans ?_ (sizeAlloc _ _)) | (with_reducible refine Nat.le_trans ?_ (sizeSet _ _ _)) | (with_reducible refine Nat.le_trans ?_ (sizeDrew _)))), rfl⟩
    rw [h6]
    clear h6 HRB hcb
    generalize grownCap w4 T.length 0 5 = gc at R6 ⊢
    have S1 := Lib.hid (HS1.out.later (show Below w.heap.size w w6 by (repeat' (first | (with_reducible exact Below.refl _ _) | (with_reducible assumption) | (with_reducible refine Below.alloc ?_ ?_ _) | (with_reducible refine Below.drew ?_) | (with_reducible refine belowDrewN ?_ _) | (with_reducible refine Below.setCell ?_ ?_ _) | (with_reducible refine Below.via (by with_reducible assumption) ?_ ?_) | (with_reducible refine Below.viaD (by with_reducible assumption) ?_ ?_) | (with_reducible exact Below.size (by with_reducible assumption)) | go_size | (with_reducible refine Nat.le_trans ?_ (Below.size (by with_reducible assumption))) | (with_reducible refine Nat.le_trans ?_ (sizeAlloc _ _)) | (with_reducible refine Nat.le_trans ?_ (sizeSet _ _ _)) | (with_reducible refine Nat.le_trans ?_ (sizeDrew _))))))
    have hx := atL_lt (k := 0) HB1.out (show 1 ≤ T.length by omega)
    obtain ⟨x, hX⟩ : ∃ x, atL zs1 0 T.length = x := ⟨_, rfl⟩
    have HA := Lib.hid (fun W h => a2At_lit A1 n1 c1 0 T.length zs1 W h HB1.out h1 (by omega) (by omega) (by omega))
    rw [hX] at hx HA
    have hy := atL_lt (k := 1) (m := 255) HB1.out (by omega)
    obtain ⟨y, hY⟩ : ∃ y, atL zs1 1 255 = y := ⟨_, rfl⟩
    have HC := Lib.hid (fun W h => a2At_lit A1 n1 c1 1 255 zs1 W h HB1.out h1 (by omega) (by omega) (by omega))
    rw [hY] at hy HC
    clear hX hY
    refine (HA.out _ S1.out).mono ?_
    rintro e w_ ⟨rfl, rfl⟩
    obtain ⟨g6, cap6, e6, hg6, hlt6, hc6, hf6, hset⟩ := R6.at_ hx.1
    injection e6 with e6 e7 e8
    injection e6 with e6
    injection e6 with e6
    subst e6 e8
    obtain ⟨z, hz⟩ : ∃ z, T[x].toNat = z := ⟨_, rfl⟩
    rw [hz] at hc6
    have hzl : z < 256 := by rw [← hz]; exact UInt8.toNat_lt _
    have hxr := xor_byte (a := z) (b := 1 + y) hzl (by omega) (by omega)
    have hbit : bits .xor .u8 (z : Int) (IntKind.u8.wrap (IntKind.i64.wrap (1 + (y : Int)))) = ((z ^^^ (1 + y) : Nat) : Int) := by
      have := u8_xor_nat z (1 + y) hzl (by omega)
      rw [IntWalk.i64_in _ (by omega), IntKind.wrap_u8', ← this]
      congr 1
      omega
    obtain ⟨t, ht⟩ : ∃ t, z ^^^ (1 + y) = t := ⟨_, rfl⟩
    rw [ht] at hxr hbit
    have HSET := Lib.hid (hset (UInt8.ofNat t))
    have htn : (UInt8.ofNat t).toNat = t := by rw [UInt8.toNat_ofNat', Nat.mod_eq_of_lt hxr.1]
    have HNE : Hid (UInt8.ofNat t ≠ T[x]) := fun h => hxr.2 (by rw [← htn, h, hz])
    rw [htn] at HSET
    have HCA := Lib.hid (HCH.out x (UInt8.ofNat t) hx.1 HNE.out)
    have hbl6 := b6.size
    clear hset ht htn hxr hz
    go_wp2_with fail
    go_region_with (go_at_call 16; refine (HC.out _ (by first | exact S1.out | exact S1.out.drew)).mono ?_; rintro e w_ ⟨rfl, rfl⟩)
    all_goals
      obtain ⟨w7, R7, b7, h7⟩ : ∃ w7 : World, RowB w7 w4.heap.size 5 (.slice (some ⟨w4.heap.size, 0, none⟩) T.length gc) T.length (bV (T.set x (UInt8.ofNat t))) ∧ Below w4.heap.size w4 w7 ∧ (w6.setCell ⟨w4.heap.size, x, none⟩ (.int .u8 (t : Int))).drew = w7 := ⟨(w6.setCell ⟨w4.heap.size, x, none⟩ (.int .u8 (t : Int))).drew, HSET.out, by (repeat' (first | (with_reducible exact Below.refl _ _) | (with_reducible assumption) | (with_reducible refine Below.alloc ?_ ?_ _) | (with_reducible refine Below.drew ?_) | (with_reducible refine belowDrewN ?_ _) | (with_reducible refine Below.setCell ?_ ?_ _) | (with_reducible refine Below.via (by with_reducible assumption) ?_ ?_) | (with_reducible refine Below.viaD (by with_reducible assumption) ?_ ?_) | (with_reducible exact Below.size (by with_reducible assumption)) | go_size | (with_reducible refine Nat.le_trans ?_ (Below.size (by with_reducible assumption))) | (with_reducible refine Nat.le_trans ?_ (sizeAlloc _ _)) | (with_reducible refine Nat.le_trans ?_ (sizeSet _ _ _)) | (with_reducible refine Nat.le_trans ?_ (sizeDrew _)))), rfl⟩
      rw [h7]
      have hcv := rowB_string R7 28 5 9 Try.underlying28 Try.underlying5 Try.underlying9
      clear h7 hbit hc6 hf6
      have HZ7 := Lib.hid (HZ4.out.later b7)
      have HY7 := Lib.hid (HY4.out.later b7)
      go_wp2_with fail
      refine (HCA.out _).mono ?_
      rintro e w8 ⟨rfl, b8⟩
      clear hcv
      have HZ8 := Lib.hid (HZ7.out.later b8)
      have HY8 := Lib.hid (HY7.out.later b8)
      go_wp2_with (go_at_call 15; refine (a2Numbers_any A3 A n cap3 n cap zs _ HY8.out HZ8.out (by omega)).mono ?_; rintro e w9 ⟨rfl, b9⟩)
      go_ret
      exact ⟨rfl, by (repeat' (first | (with_reducible exact Below.refl _ _) | (with_reducible assumption) | (with_reducible refine Below.alloc ?_ ?_ _) | (with_reducible refine Below.drew ?_) | (with_reducible refine belowDrewN ?_ _) | (with_reducible refine Below.setCell ?_ ?_ _) | (with_reducible refine Below.via (by with_reducible assumption) ?_ ?_) | (with_reducible refine Below.viaD (by with_reducible assumption) ?_ ?_) | (with_reducible exact Below.size (by with_reducible assumption)) | go_size | (with_reducible refine Nat.le_trans ?_ (Below.size (by with_reducible assumption))) | (with_reducible refine Nat.le_trans ?_ (sizeAlloc _ _)) | (with_reducible refine Nat.le_trans ?_ (sizeSet _ _ _)) | (with_reducible refine Nat.le_trans ?_ (sizeDrew _))))⟩
end Go.Proofs.Ytbaimfmepidjcaa
