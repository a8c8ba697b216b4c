/- The seeds of a side, and the value of an end: both functions. Conditions: lengths below 2^20. -/
import Derived.Test.YtdkljnlkfkjdpaaPos
namespace Go.Proofs.Ytdkljnlkfkjdpaa
set_option linter.unusedSimpArgs false
set_option linter.unusedVariables false
open Go.RowKit

theorem undr {w w' : World} (h : Below w.drew.heap.size w.drew w') : Below w.heap.size w w' := Below.undrew h
def segL (zs : List Int) (lo P : Nat) : List Int := (zs.drop lo).take P
def sideV (zs : List Int) (P pl : Nat) : Int := psum (segL zs (pl * P) P) P
theorem segL_len {zs : List Int} {lo P : Nat} (h : lo + P ≤ zs.length) : (segL zs lo P).length = P := by simp [segL]; omega
theorem segL_at {zs : List Int} {lo P j : Nat} (h : lo + P ≤ zs.length) (hj : j < P) : (segL zs lo P).getD j 0 = zs.getD (lo + j) 0 := by
  rw [segL, List.getD_eq_getElem?_getD, List.getD_eq_getElem?_getD, List.getElem?_take, if_pos hj, List.getElem?_drop]
theorem okL_seg {zs : List Int} {lo P : Nat} (h : okL zs = true) (hl : lo + P ≤ zs.length) : okL (segL zs lo P) = true := by
  refine okL_t fun j hj => ?_
  rw [segL_len hl] at hj
  rw [segL_at hl hj]
  exact List.all_eq_true.1 h _ (getD_mem 0 (by omega))
theorem sideV_bd {zs : List Int} {P pl : Nat} (h : okL zs = true) (hl : pl * P + P ≤ zs.length) (hP : P ≤ 8) : 0 ≤ sideV zs P pl ∧ sideV zs P pl ≤ 768 := by
  have h1 := psum_all (okL_seg h hl)
  rw [segL_len hl] at h1
  rw [sideV]
  omega
theorem Sl.seg {w : World} {B n lo P : Nat} {b off : Nat} {zs : List Int} (h : Sl w B 1 (some ⟨b, off, none⟩) n (zs.map (Value.int .i64))) (hl : lo + P ≤ n) : Sl w B 1 (some ⟨b, off + lo, none⟩) P ((segL zs lo P).map (Value.int .i64)) := by
  have hz := h.ints
  refine ⟨by rw [List.length_map, segL_len (by omega), Nat.mul_one], fun hP => ?_⟩
  obtain ⟨b', off', e, hb, hc⟩ := h.2 (by omega)
  injection e with e
  injection e with e1 e2 _
  subst e1 e2
  refine ⟨_, _, rfl, hb, fun j u hu => ?_⟩
  rw [Nat.add_assoc]
  refine hc _ _ ?_
  have hj : j < P := by
    rcases Nat.lt_or_ge j P with h | h
    · exact h
    · rw [List.getElem?_eq_none (by rw [List.length_map, segL_len (by omega)]; exact h)] at hu; cases hu
  rw [← hu, List.getElem?_map, List.getElem?_map, segL, List.getElem?_take, if_pos hj, List.getElem?_drop]
theorem sideV_bd2 {zs : List Int} {P pl : Nat} (h : okL zs = true) (hl : zs.length = 2 * P) (hp : pl < 2) (hP : P ≤ 8) : 0 ≤ sideV zs P pl ∧ sideV zs P pl ≤ 768 := by
  have : pl = 0 ∨ pl = 1 := by omega
  rcases this with rfl | rfl
  · exact sideV_bd h (by omega) hP
  · exact sideV_bd h (by omega) hP
set_option maxRecDepth 100000 in
set_option maxHeartbeats 2000000 in
theorem side_any (r : Ru) (P pl : Nat) (A : Option Addr) (n c : Nat) (zs : List Int) (w : World) (hs : Sl w w.heap.size 1 A n (zs.map (Value.int .i64))) (hP : r.p = (P : Int)) (h2 : 2 ≤ P) (h8 : P ≤ 8) (hn : n = 2 * P) (hc : n ≤ c) (hcm : c ≤ 9223372036854775807) (hpl : pl < 2) (ho : okL zs = true) :
    Calls Try.prog 52 #[.agg #[.int .i64 r.p, .int .i64 r.s, .bool r.st, .bool r.sk, .bool r.re, .bool r.fe, .bool r.ag, .int .i64 r.ca, .int .i64 r.sl], .slice A n c, .int .i64 pl] w fun e w' => e = .returned (.int .i64 (sideV zs P pl)) ∧ Below w.heap.size w w' := by
  obtain ⟨p, s, st, sk, re, fe, ag, ca, sl⟩ := r
  simp only at hP
  subst hP
  obtain ⟨b, off, e, hb, hcl⟩ := hs.2 (by omega)
  subst e
  have hz := hs.ints
  subst hn
  have hl : pl * P + P ≤ 2 * P := by
    have : pl = 0 ∨ pl = 1 := by omega
    rcases this with rfl | rfl <;> omega
  have HSG := Lib.hid (hs.seg (lo := pl * P) (P := P) hl)
  have hsr : sumR (segL zs (pl * P) P) P = (sideV zs P pl, true) := by rw [sumR, okL_seg ho (by omega)]; rfl
  have HR := Lib.hid hsr
  clear hsr hs hcl
  have : pl = 0 ∨ pl = 1 := by omega
  rcases this with rfl | rfl
  · have HSG0 : Hid (Sl w w.heap.size 1 (some ⟨b, off, none⟩) P ((segL zs (0 * P) P).map (Value.int .i64))) := by have h9 := HSG.out; rw [Nat.zero_mul, Nat.add_zero] at h9; rw [Nat.zero_mul]; exact h9
    go_enter Try.func52, Try.ntmps52
    go_wp2_with (go_at_call 66; (with_reducible refine Calls.mono (sumOf_any (some ⟨b, off, none⟩) P c (segL zs (0 * P) P) _ ?_ (by omega) _ _ HR.out) ?_); (exact HSG0.out.later (by (repeat' (first | (with_reducible exact Below.refl _ _) | (with_reducible assumption) | (with_reducible refine Below.alloc ?_ ?_ _) | (with_reducible refine Below.drew ?_) | (with_reducible refine belowDrewN ?_ _) | (with_reducible refine Below.setCell ?_ ?_ _) | (with_reducible refine Below.via (by with_reducible assumption) ?_ ?_) | (with_reducible refine Below.viaD (by with_reducible assumption) ?_ ?_) | (with_reducible exact Below.size (by with_reducible assumption)) | go_size | (with_reducible refine Nat.le_trans ?_ (Below.size (by with_reducible assumption))) | (with_reducible refine Nat.le_trans ?_ (sizeAlloc _ _)) | (with_reducible refine Nat.le_trans ?_ (sizeSet _ _ _)) | (with_reducible refine Nat.le_trans ?_ (sizeDrew _)))))); rintro e w_ ⟨rfl, rfl⟩)
    all_goals
      go_ret
      exact ⟨rfl, by (repeat' (first | (with_reducible exact Below.refl _ _) | (with_reducible assumption) | (with_reducible refine Below.alloc ?_ ?_ _) | (with_reducible refine Below.drew ?_) | (with_reducible refine belowDrewN ?_ _) | (with_reducible refine Below.setCell ?_ ?_ _) | (with_reducible refine Below.via (by with_reducible assumption) ?_ ?_) | (with_reducible refine Below.viaD (by with_reducible assumption) ?_ ?_) | (with_reducible exact Below.size (by with_reducible assumption)) | go_size | (with_reducible refine Nat.le_trans ?_ (Below.size (by with_reducible assumption))) | (with_reducible refine Nat.le_trans ?_ (sizeAlloc _ _)) | (with_reducible refine Nat.le_trans ?_ (sizeSet _ _ _)) | (with_reducible refine Nat.le_trans ?_ (sizeDrew _))))⟩
  · have hpp : 2 * P - P = P := by omega
    have HSG1 : Hid (Sl w w.heap.size 1 (some ⟨b, off + P, none⟩) (2 * P - P) ((segL zs (1 * P) P).map (Value.int .i64))) := by have h9 := HSG.out; rw [Nat.one_mul] at h9; rw [Nat.one_mul, hpp]; exact h9
    have HR1 : Hid (sumR (segL zs (1 * P) P) (2 * P - P) = (sideV zs P 1, true)) := by rw [hpp]; exact HR
    clear hpp
    go_enter Try.func52, Try.ntmps52
    go_wp2_with (go_at_call 66; (with_reducible refine Calls.mono (sumOf_any (some ⟨b, off + P, none⟩) (2 * P - P) (c - P) (segL zs (1 * P) P) _ ?_ (by omega) _ _ HR1.out) ?_); (exact HSG1.out.later (by (repeat' (first | (with_reducible exact Below.refl _ _) | (with_reducible assumption) | (with_reducible refine Below.alloc ?_ ?_ _) | (with_reducible refine Below.drew ?_) | (with_reducible refine belowDrewN ?_ _) | (with_reducible refine Below.setCell ?_ ?_ _) | (with_reducible refine Below.via (by with_reducible assumption) ?_ ?_) | (with_reducible refine Below.viaD (by with_reducible assumption) ?_ ?_) | (with_reducible exact Below.size (by with_reducible assumption)) | go_size | (with_reducible refine Nat.le_trans ?_ (Below.size (by with_reducible assumption))) | (with_reducible refine Nat.le_trans ?_ (sizeAlloc _ _)) | (with_reducible refine Nat.le_trans ?_ (sizeSet _ _ _)) | (with_reducible refine Nat.le_trans ?_ (sizeDrew _)))))); rintro e w_ ⟨rfl, rfl⟩)
    all_goals
      go_ret
      exact ⟨rfl, by (repeat' (first | (with_reducible exact Below.refl _ _) | (with_reducible assumption) | (with_reducible refine Below.alloc ?_ ?_ _) | (with_reducible refine Below.drew ?_) | (with_reducible refine belowDrewN ?_ _) | (with_reducible refine Below.setCell ?_ ?_ _) | (with_reducible refine Below.via (by with_reducible assumption) ?_ ?_) | (with_reducible refine Below.viaD (by with_reducible assumption) ?_ ?_) | (with_reducible exact Below.size (by with_reducible assumption)) | go_size | (with_reducible refine Nat.le_trans ?_ (Below.size (by with_reducible assumption))) | (with_reducible refine Nat.le_trans ?_ (sizeAlloc _ _)) | (with_reducible refine Nat.le_trans ?_ (sizeSet _ _ _)) | (with_reducible refine Nat.le_trans ?_ (sizeDrew _))))⟩
set_option maxRecDepth 100000 in
set_option maxHeartbeats 2000000 in
theorem l04Side_any (r : Ru) (P pl b o : Nat) (A : Option Addr) (n c : Nat) (zs : List Int) (w : World) (hr : RuAt w b o r) (hs : Sl w w.heap.size 1 A n (zs.map (Value.int .i64))) (hP : r.p = (P : Int)) (h2 : 2 ≤ P) (h8 : P ≤ 8) (hn : n = 2 * P) (hpl : pl < 2) (ho : okL zs = true) :
    Calls Try.prog 47 #[.pointer (some ⟨b, o, none⟩), .slice A n c, .int .i64 pl] w fun e w' => e = .returned (.int .i64 (sideV zs P pl)) ∧ w = w' := by
  have r0 := hr.c0
  rw [hP] at r0
  clear hr hP
  have hz := hs.ints
  subst hn
  have hl : pl * P + P ≤ 2 * P := by
    have : pl = 0 ∨ pl = 1 := by omega
    rcases this with rfl | rfl <;> omega
  obtain ⟨lo, hlo⟩ : ∃ lo, pl * P = lo := ⟨_, rfl⟩
  have HS : Hid (sideV zs P pl = psum (segL zs lo P) P) := by unfold Hid; rw [sideV, hlo]
  rw [HS.out]
  rw [hlo] at hl
  have HO : Hid (∀ j, j < P → inB ((segL zs lo P).getD j 0) 0 96 = true) := fun j hj => List.all_eq_true.1 (okL_seg ho (by omega)) _ (getD_mem 0 (by rw [segL_len (by omega)]; exact hj))
  have hcase : pl = 0 ∧ lo = 0 ∨ pl = 1 ∧ P = lo := by
    have : pl = 0 ∨ pl = 1 := by omega
    rcases this with rfl | rfl
    · exact .inl ⟨rfl, by omega⟩
    · exact .inr ⟨rfl, by omega⟩
  clear hlo
  rcases hcase with ⟨rfl, rfl⟩ | ⟨rfl, rfl⟩
  · go_enter Try.func47, Try.ntmps47
    go_wp2
    go_loop [7, 8] (fun l i => ∃ k : Nat, k ≤ P ∧ i = .int .i64 (k : Nat) ∧ l = .int .i64 (psum (segL zs 0 P) k)) (fun _ i => 2 * P - (intOf i).toNat)
    case atStart => exact ⟨0, Nat.zero_le _, by simp, rfl⟩
    case round =>
      obtain ⟨k, hk, rfl, rfl⟩ := hrel
      by_cases hlt : k < P
      · obtain ⟨bb, off, z, rfl, hb, HZ, hcz⟩ := hs.int (k := k) (by omega)
        obtain ⟨p1, p2⟩ := psum_bd (zs := segL zs 0 P) (k := k) (fun j hj => HO.out j (by omega))
        have hzz := inB_of (HO.out k hlt)
        have hse : (segL zs 0 P).getD k 0 = z := by rw [segL_at (by omega) hlt, Nat.zero_add]; exact HZ.out
        rw [hse] at hzz
        obtain ⟨z1, z2⟩ := hzz
        have HP : Hid (psum (segL zs 0 P) (k + 1) = psum (segL zs 0 P) k + z) := by unfold Hid; rw [psum, hse]
        clear hse
        revert p1 p2 HP
        generalize psum (segL zs 0 P) k = u
        intro p1 p2 HP
        go_wp2
        go_round
        case rel => exact ⟨k + 1, by omega, by go_num, by rw [HP.out]⟩
        case measure => first | (simp [intOf]; done) | (simp [intOf]; omega)
      · obtain rfl : k = P := by omega
        go_wp2
        go_ret
        exact ⟨rfl, rfl⟩
  · go_enter Try.func47, Try.ntmps47
    go_wp2
    go_loop [7, 8] (fun l i => ∃ k : Nat, k ≤ P ∧ i = .int .i64 ((P : Nat) + (k : Nat)) ∧ l = .int .i64 (psum (segL zs P P) k)) (fun _ i => 2 * P - (intOf i).toNat)
    case atStart => exact ⟨0, Nat.zero_le _, by simp, rfl⟩
    case round =>
      obtain ⟨k, hk, rfl, rfl⟩ := hrel
      by_cases hlt : k < P
      · obtain ⟨bb, off, z, rfl, hb, HZ, hcz⟩ := hs.int (k := P + k) (by omega)
        obtain ⟨p1, p2⟩ := psum_bd (zs := segL zs P P) (k := k) (fun j hj => HO.out j (by omega))
        have hzz := inB_of (HO.out k hlt)
        have hse : (segL zs P P).getD k 0 = z := by rw [segL_at (by omega) hlt]; exact HZ.out
        rw [hse] at hzz
        obtain ⟨z1, z2⟩ := hzz
        have HP : Hid (psum (segL zs P P) (k + 1) = psum (segL zs P P) k + z) := by unfold Hid; rw [psum, hse]
        clear hse
        revert p1 p2 HP
        generalize psum (segL zs P P) k = u
        intro p1 p2 HP
        go_wp2
        go_round
        case rel => exact ⟨k + 1, by omega, by go_num, by rw [HP.out]⟩
        case measure => first | (simp [intOf]; done) | (simp [intOf]; omega)
      · obtain rfl : k = P := by omega
        go_wp2
        go_ret
        exact ⟨rfl, rfl⟩
def evR (r : Ru) (d : PositionD) : Int × Int := if okPos r d then (sideV d.pits r.p.toNat d.player.toNat - sideV d.pits r.p.toNat (1 - d.player).toNat, 0) else (0, 1)
theorem okPos_of {r : Ru} {d : PositionD} (h : okPos r d = true) : ∃ P pl : Nat, r.p = (P : Int) ∧ 2 ≤ P ∧ P ≤ 8 ∧ d.pits.length = 2 * P ∧ d.stores.length = 2 ∧ d.player = (pl : Int) ∧ pl < 2 ∧ okL d.pits = true ∧ okL d.stores = true ∧ okRu r = true := by
  simp only [okPos, Bool.and_eq_true, decide_eq_true_eq] at h
  obtain ⟨⟨⟨⟨⟨⟨h1, h2⟩, h3⟩, h4⟩, h5⟩, h6⟩, h7⟩ := h
  obtain ⟨b1, b2⟩ := okRu_of h1
  obtain ⟨c1, c2⟩ := inB_of h4
  obtain ⟨P, hP⟩ := Int.eq_ofNat_of_zero_le (show 0 ≤ r.p by omega)
  obtain ⟨pl, hpl⟩ := Int.eq_ofNat_of_zero_le c1
  exact ⟨P, pl, hP, by omega, by omega, by omega, h3, hpl, by omega, h5, h6, h1⟩
end Go.Proofs.Ytdkljnlkfkjdpaa
