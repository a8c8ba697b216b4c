/- TiedWith: both functions, and the law. No conditions beyond lengths. -/
import Derived.Test.YtlogcbiebpfmlaaStand9
namespace Go.Proofs.Ytlogcbiebpfmlaa
set_option linter.unusedSimpArgs false
set_option linter.unusedVariables false
open Go.RowKit

theorem Sl.both {w : World} {B n : Nat} {A : Option Addr} {zs : List Int} (h : Sl w B 1 A n (zs.map (Value.int .i64))) {k m : Nat} (hk : k < n) (hm : m < n) :
    ∃ b off z z', A = some ⟨b, off, none⟩ ∧ b < B ∧ Hid (zs.getD k 0 = z) ∧ Hid (zs.getD m 0 = z') ∧ w.cell? ⟨b, off + k, none⟩ = some (.int .i64 z) ∧ w.cell? ⟨b, off + m, none⟩ = some (.int .i64 z') := by
  obtain ⟨b, off, e, hb, hc⟩ := h.2 (by omega)
  have hl := h.1
  rw [List.length_map] at hl
  exact ⟨b, off, _, _, e, hb, rfl, rfl, hc k _ (getD_map_int (by omega)), hc m _ (getD_map_int (by omega))⟩
/-- The first k players with a rank. -/
def tdZ (Z : List Int) (x : Int) : Nat → List Int
  | 0 => []
  | k + 1 => tdZ Z x k ++ (if Z.getD k 0 == x then [(k : Int)] else [])
theorem tdZ_len (Z : List Int) (x : Int) (k : Nat) : (tdZ Z x k).length ≤ k := by
  induction k with
  | zero => simp [tdZ]
  | succ k ih =>
    rw [tdZ, List.length_append]
    split <;> simp <;> omega
def tiedR (n p : Int) (vs : List Value) (c : Nat) : List Int × Int := if validMs n vs then (if inB p 0 (n - 1) then (tdZ (rkZ (F2 vs c c) n.toNat) ((rkZ (F2 vs c c) n.toNat).getD p.toNat 0) n.toNat, 0) else ([], 2)) else ([], 1)
theorem row_drewK {w : World} {base : Nat} {e : TypeId} {size n : Nat} {v : Value} {xs : List Value} (h : w.ownsRow base e size v n xs) (k : Nat) : (w.drewN k).ownsRow base e size v n xs := h
set_option maxRecDepth 100000 in
set_option maxHeartbeats 2000000 in
theorem TiedWith_any (n p : Int) (A : Option Addr) (c cp : Nat) (vs : List Value) (w : World) (hs : Sl w w.heap.size 4 A c vs) (ht : TypMatch vs c) (hc : c ≤ 9223372036854775807) (l : List Int) (code : Int) (hr : tiedR n p vs c = (l, code)) :
    Calls Try.prog 6 #[.int .i64 n, .slice A c cp, .int .i64 p] w (LiPost l code w) := by
  have HL := Lib.hid hs.len
  have HT := Lib.hid ht
  have HS := Lib.hid hs
  unfold tiedR at hr
  cases hv : validMs n vs
  case false =>
    rw [hv] at hr
    obtain ⟨rfl, rfl⟩ := prLI hr
    clear hr
    go_enter Try.func6, Try.ntmps6
    go_wp2_with (go_at_call 15; refine (ValidMatches_any n A c cp vs _ hs HT.out hc).mono ?_; rintro e w1 ⟨rfl, hb1⟩; obtain ⟨hc1, hf1, hl1, hz1⟩ := bfacts hb1; (try simp only [World.size_alloc, World.size_setCell, World.size_drew] at hz1))
    go_ret2
    exact li_none _ _ _ (by (repeat' (first | (with_reducible exact Below.refl _ _) | (with_reducible assumption) | (with_reducible refine Below.alloc ?_ ?_ _) | (with_reducible refine Below.drew ?_) | (with_reducible refine belowDrewN ?_ _) | (with_reducible refine Below.setCell ?_ ?_ _) | (with_reducible refine Below.via (by with_reducible assumption) ?_ ?_) | (with_reducible refine Below.viaD (by with_reducible assumption) ?_ ?_) | (with_reducible exact Below.size (by with_reducible assumption)) | go_size | (with_reducible refine Nat.le_trans ?_ (Below.size (by with_reducible assumption))) | (with_reducible refine Nat.le_trans ?_ (sizeAlloc _ _)) | (with_reducible refine Nat.le_trans ?_ (sizeSet _ _ _)) | (with_reducible refine Nat.le_trans ?_ (sizeDrew _)))))
  case true =>
    rw [hv, if_pos rfl] at hr
    obtain ⟨m, rfl, k1, k2, hc150, hz⟩ := validMs_of HL.out hv
    cases q1 : inB p 0 ((m : Int) - 1)
    case false =>
      rw [q1] at hr
      obtain ⟨rfl, rfl⟩ := prLI hr
      clear hr
      go_enter Try.func6, Try.ntmps6
      go_wp2_with (first | (go_at_call 15; refine (ValidMatches_any m A c cp vs _ hs HT.out hc).mono ?_; rintro e w1 ⟨rfl, hb1⟩; obtain ⟨hc1, hf1, hl1, hz1⟩ := bfacts hb1; (try simp only [World.size_alloc, World.size_setCell, World.size_drew] at hz1)) | (go_at_call 16; refine (between_any _ _ _ _).mono ?_; rintro e w_ ⟨rfl, rfl⟩))
      go_ret2
      exact li_none _ _ _ (by (repeat' (first | (with_reducible exact Below.refl _ _) | (with_reducible assumption) | (with_reducible refine Below.alloc ?_ ?_ _) | (with_reducible refine Below.drew ?_) | (with_reducible refine belowDrewN ?_ _) | (with_reducible refine Below.setCell ?_ ?_ _) | (with_reducible refine Below.via (by with_reducible assumption) ?_ ?_) | (with_reducible refine Below.viaD (by with_reducible assumption) ?_ ?_) | (with_reducible exact Below.size (by with_reducible assumption)) | go_size | (with_reducible refine Nat.le_trans ?_ (Below.size (by with_reducible assumption))) | (with_reducible refine Nat.le_trans ?_ (sizeAlloc _ _)) | (with_reducible refine Nat.le_trans ?_ (sizeSet _ _ _)) | (with_reducible refine Nat.le_trans ?_ (sizeDrew _)))))
    case true =>
      rw [q1, if_pos rfl, Int.toNat_natCast] at hr
      obtain ⟨pp, rfl⟩ := Int.eq_ofNat_of_zero_le (inB_of q1).1
      have hpm : pp < m := by have := (inB_of q1).2; omega
      rw [Int.toNat_natCast] at hr
      obtain ⟨hr1, rfl⟩ := prLI hr
      have HR := Lib.hid (ranks_any m A c cp vs)
      have HZ : Hid (okMs vs c m) := hz
      obtain ⟨Z, hZ⟩ : ∃ Z, rkZ (F2 vs c c) m = Z := ⟨_, rfl⟩
      have HZM : Hid (rkL (F2 vs c c) m m = Z.map (Value.int .i64)) := by unfold Hid; rw [rkZ_map, hZ]
      rw [hZ] at hr1
      have HE := Lib.hid hr1
      clear hr hr1 hZ hz ht hs
      obtain ⟨i0, ti, tz0, tz1, tz2⟩ := info_parts info_int64k
      go_enter Try.func6, Try.ntmps6
      go_wp2_with fail
      refine (ValidMatches_any m A c cp vs _ (HS.out) HT.out hc).mono ?_
      rw [hv]
      rintro e w1 ⟨rfl, hb1⟩
      have HB := Lib.hid hb1
      clear hb1
      go_wp2_with (go_at_call 16; refine (between_any _ _ _ _).mono ?_; rintro e w_ ⟨rfl, rfl⟩)
      refine (HR.out _ (HS.out.later HB.out) HT.out k1 k2 hc150 HZ.out).mono ?_
      rintro e w2 ⟨A', g, cap, rfl, hg, ho, hb2⟩
      rw [HZM.out] at ho
      have HSL := Lib.hid ho.sl
      have HB2 := Lib.hid (Below.via hb2 HB.out HB.out.size)
      obtain ⟨x, hx⟩ : ∃ x, Z.getD pp 0 = x := ⟨_, rfl⟩
      have HXP := Lib.hid hx
      clear hb2 ho hg hx
      go_wp2_with fail
      go_loopw [9, 27] (fun v i wr => ∃ k : Nat, k ≤ m ∧ i = .int .i64 k ∧ wr.ownsRow w2.heap.size 2 1 v (tdZ Z x k).length ((tdZ Z x k).map (Value.int .i64)) ∧ Below w2.heap.size w2 wr) (fun _ i _ => m - (intOf i).toNat)
      case atStart => exact ⟨0, Nat.zero_le _, rfl, row_made1 rfl (Nat.le_refl _), by (repeat' (first | (with_reducible exact Below.refl _ _) | (with_reducible assumption) | (with_reducible refine Below.alloc ?_ ?_ _) | (with_reducible refine Below.drew ?_) | (with_reducible refine belowDrewN ?_ _) | (with_reducible refine Below.setCell ?_ ?_ _) | (with_reducible refine Below.via (by with_reducible assumption) ?_ ?_) | (with_reducible refine Below.viaD (by with_reducible assumption) ?_ ?_) | (with_reducible exact Below.size (by with_reducible assumption)) | go_size | (with_reducible refine Nat.le_trans ?_ (Below.size (by with_reducible assumption))) | (with_reducible refine Nat.le_trans ?_ (sizeAlloc _ _)) | (with_reducible refine Nat.le_trans ?_ (sizeSet _ _ _)) | (with_reducible refine Nat.le_trans ?_ (sizeDrew _))))⟩
      case round =>
        obtain ⟨k, hk, rfl, hown, hbl⟩ := hrel
        have HBL := Lib.hid hbl
        have hbs := hbl.size
        by_cases hlt : k < m
        · obtain ⟨b, off, z, z', rfl, hb, HK1, HK2, hc1, hc2⟩ := (HSL.out.later hbl).both hlt hpm
          obtain rfl : x = z' := HXP.out.symm.trans HK2.out
          have hml := tdZ_len Z x k
          have HX : Hid (tdZ Z x (k + 1) = tdZ Z x k ++ (if z == x then [(k : Int)] else [])) := by unfold Hid; rw [tdZ, HK1.out]
          clear hbl
          revert hown hml HX
          generalize tdZ Z x k = L
          intro hown hml HX
          have HO := Lib.hid hown
          clear hown
          cases p1 : (z == x)
          case true =>
            have HX2 : Hid (tdZ Z x (k + 1) = L ++ [(k : Int)]) := by unfold Hid; rw [HX.out, p1]; rfl
            go_wp2_with (at_builtin; refine wpList_append_sl _ rfl _ _ 27 rfl w2.heap.size 2 i0 _ 1 8 Try.underlying27 ti tz0 tz1 tz2 rfl (by decide) _ L.length (L.map (Value.int .i64)) rfl (HO.out.alloc _) (wr.heap.size + 1) _ 1 1 [.int .i64 k] rfl (Sl.built (by simp) (by simp) rfl) ?c1 ?c2 ?c3 ?c4 ?_)
            case c1 => intro u hu; simp at hu; subst hu; rfl
            case c2 => unfold maxLen; omega
            case c3 => omega
            case c4 => first | (simp; done) | (simp; omega)
            intro v' w4 hown4 hg4 _
            have hbn : Below w2.heap.size w2 w4 := below_app (by have := HBL.out; (repeat' (first | (with_reducible exact Below.refl _ _) | (with_reducible assumption) | (with_reducible refine Below.alloc ?_ ?_ _) | (with_reducible refine Below.drew ?_) | (with_reducible refine belowDrewN ?_ _) | (with_reducible refine Below.setCell ?_ ?_ _) | (with_reducible refine Below.via (by with_reducible assumption) ?_ ?_) | (with_reducible refine Below.viaD (by with_reducible assumption) ?_ ?_) | (with_reducible exact Below.size (by with_reducible assumption)) | go_size | (with_reducible refine Nat.le_trans ?_ (Below.size (by with_reducible assumption))) | (with_reducible refine Nat.le_trans ?_ (sizeAlloc _ _)) | (with_reducible refine Nat.le_trans ?_ (sizeSet _ _ _)) | (with_reducible refine Nat.le_trans ?_ (sizeDrew _))))) (HO.out.alloc _) hg4 (Nat.le_refl _) (by simp; omega)
            have HO4 := Lib.hid hown4
            clear hown4 hg4
            go_wp2_with fail
            go_roundw
            case rel => exact ⟨k + 1, by omega, by go_num, by rw [HX2.out, List.length_append, List.map_append]; exact HO4.out, hbn⟩
            case measure => first | (simp [intOf]; done) | (simp [intOf]; omega)
          case false =>
            have HX2 : Hid (tdZ Z x (k + 1) = L) := by unfold Hid; rw [HX.out, p1]; simp
            go_wp2_with fail
            go_roundw
            case rel => exact ⟨k + 1, by omega, by go_num, by rw [HX2.out]; exact HO.out, by have := HBL.out; (repeat' (first | (with_reducible exact Below.refl _ _) | (with_reducible assumption) | (with_reducible refine Below.alloc ?_ ?_ _) | (with_reducible refine Below.drew ?_) | (with_reducible refine belowDrewN ?_ _) | (with_reducible refine Below.setCell ?_ ?_ _) | (with_reducible refine Below.via (by with_reducible assumption) ?_ ?_) | (with_reducible refine Below.viaD (by with_reducible assumption) ?_ ?_) | (with_reducible exact Below.size (by with_reducible assumption)) | go_size | (with_reducible refine Nat.le_trans ?_ (Below.size (by with_reducible assumption))) | (with_reducible refine Nat.le_trans ?_ (sizeAlloc _ _)) | (with_reducible refine Nat.le_trans ?_ (sizeSet _ _ _)) | (with_reducible refine Nat.le_trans ?_ (sizeDrew _))))⟩
            case measure => first | (simp [intOf]; done) | (simp [intOf]; omega)
        · obtain rfl : k = m := by omega
          have hl : tdZ Z x k = l := by rw [← HXP.out]; exact HE.out
          rw [hl] at hown
          obtain ⟨A9, g9, cap9, rfl, hg9, hnc, hcm, ho9⟩ := own_of_row hown
          clear hown
          go_wp2_with fail
          go_ret2
          exact ⟨A9, g9, cap9, rfl, Nat.le_trans HB2.out.size hg9, ho9, Below.via hbl HB2.out HB2.out.size⟩
set_option maxRecDepth 100000 in
set_option maxHeartbeats 2000000 in
theorem sTiedWith_any (n p : Int) (A : Option Addr) (c cp : Nat) (vs : List Value) (w : World) (hs : Sl w w.heap.size 4 A c vs) (ht : TypMatch vs c) (hc : c ≤ 9223372036854775807) (l : List Int) (code : Int) (hr : tiedR n p vs c = (l, code)) :
    Calls Try.prog 7 #[.int .i64 n, .slice A c cp, .int .i64 p] w (LiPost l code w) := by
  have HL := Lib.hid hs.len
  have HT := Lib.hid ht
  have HS := Lib.hid hs
  unfold tiedR at hr
  cases hv : validMs n vs
  case false =>
    rw [hv] at hr
    obtain ⟨rfl, rfl⟩ := prLI hr
    clear hr
    go_enter Try.func7, Try.ntmps7
    go_wp2_with (go_at_call 18; refine (l26Ok_any n A c cp vs _ hs HT.out hc).mono ?_; rintro e w1 ⟨rfl, hb1⟩; obtain ⟨hc1, hf1, hl1, hz1⟩ := bfacts hb1; (try simp only [World.size_alloc, World.size_setCell, World.size_drew] at hz1))
    go_ret2
    exact li_none _ _ _ (by (repeat' (first | (with_reducible exact Below.refl _ _) | (with_reducible assumption) | (with_reducible refine Below.alloc ?_ ?_ _) | (with_reducible refine Below.drew ?_) | (with_reducible refine belowDrewN ?_ _) | (with_reducible refine Below.setCell ?_ ?_ _) | (with_reducible refine Below.via (by with_reducible assumption) ?_ ?_) | (with_reducible refine Below.viaD (by with_reducible assumption) ?_ ?_) | (with_reducible exact Below.size (by with_reducible assumption)) | go_size | (with_reducible refine Nat.le_trans ?_ (Below.size (by with_reducible assumption))) | (with_reducible refine Nat.le_trans ?_ (sizeAlloc _ _)) | (with_reducible refine Nat.le_trans ?_ (sizeSet _ _ _)) | (with_reducible refine Nat.le_trans ?_ (sizeDrew _)))))
  case true =>
    rw [hv, if_pos rfl] at hr
    obtain ⟨m, rfl, k1, k2, hc150, hz⟩ := validMs_of HL.out hv
    cases q1 : inB p 0 ((m : Int) - 1)
    case false =>
      rw [q1] at hr
      obtain ⟨rfl, rfl⟩ := prLI hr
      clear hr
      go_enter Try.func7, Try.ntmps7
      go_wp2_with (first | (go_at_call 18; refine (l26Ok_any m A c cp vs _ hs HT.out hc).mono ?_; rintro e w1 ⟨rfl, hb1⟩; obtain ⟨hc1, hf1, hl1, hz1⟩ := bfacts hb1; (try simp only [World.size_alloc, World.size_setCell, World.size_drew] at hz1)) | (go_at_call 19; refine (l00In_any _ _ _ _).mono ?_; rintro e w_ ⟨rfl, rfl⟩))
      go_ret2
      exact li_none _ _ _ (by (repeat' (first | (with_reducible exact Below.refl _ _) | (with_reducible assumption) | (with_reducible refine Below.alloc ?_ ?_ _) | (with_reducible refine Below.drew ?_) | (with_reducible refine belowDrewN ?_ _) | (with_reducible refine Below.setCell ?_ ?_ _) | (with_reducible refine Below.via (by with_reducible assumption) ?_ ?_) | (with_reducible refine Below.viaD (by with_reducible assumption) ?_ ?_) | (with_reducible exact Below.size (by with_reducible assumption)) | go_size | (with_reducible refine Nat.le_trans ?_ (Below.size (by with_reducible assumption))) | (with_reducible refine Nat.le_trans ?_ (sizeAlloc _ _)) | (with_reducible refine Nat.le_trans ?_ (sizeSet _ _ _)) | (with_reducible refine Nat.le_trans ?_ (sizeDrew _)))))
    case true =>
      rw [q1, if_pos rfl, Int.toNat_natCast] at hr
      obtain ⟨pp, rfl⟩ := Int.eq_ofNat_of_zero_le (inB_of q1).1
      have hpm : pp < m := by have := (inB_of q1).2; omega
      rw [Int.toNat_natCast] at hr
      obtain ⟨hr1, rfl⟩ := prLI hr
      have HR := Lib.hid (l26Ranks_any m A c cp vs)
      have HZ : Hid (okMs vs c m) := hz
      obtain ⟨Z, hZ⟩ : ∃ Z, rkZ (F2 vs c c) m = Z := ⟨_, rfl⟩
      have HZM : Hid (rkL (F2 vs c c) m m = Z.map (Value.int .i64)) := by unfold Hid; rw [rkZ_map, hZ]
      rw [hZ] at hr1
      have HE := Lib.hid hr1
      clear hr hr1 hZ hz ht hs
      obtain ⟨i0, ti, tz0, tz1, tz2⟩ := info_parts info_int64k
      go_enter Try.func7, Try.ntmps7
      go_wp2_with fail
      refine (l26Ok_any m A c cp vs _ (HS.out) HT.out hc).mono ?_
      rw [hv]
      rintro e w1 ⟨rfl, hb1⟩
      have HB := Lib.hid hb1
      clear hb1
      go_wp2_with (go_at_call 19; refine (l00In_any _ _ _ _).mono ?_; rintro e w_ ⟨rfl, rfl⟩)
      refine (HR.out _ (HS.out.later HB.out) HT.out k1 k2 hc150 HZ.out).mono ?_
      rintro e w2 ⟨A', g, cap, rfl, hg, ho, hb2⟩
      rw [HZM.out] at ho
      have HSL := Lib.hid ho.sl
      have HB2 := Lib.hid (Below.via hb2 HB.out HB.out.size)
      obtain ⟨x, hx⟩ : ∃ x, Z.getD pp 0 = x := ⟨_, rfl⟩
      have HXP := Lib.hid hx
      clear hb2 ho hg hx
      go_wp2_with fail
      go_loopw [9, 10] (fun v i wr => ∃ k : Nat, k ≤ m ∧ i = .int .i64 k ∧ wr.ownsRow w2.heap.size 2 1 v (tdZ Z x k).length ((tdZ Z x k).map (Value.int .i64)) ∧ Below w2.heap.size w2 wr) (fun _ i _ => m - (intOf i).toNat)
      case atStart => exact ⟨0, Nat.zero_le _, rfl, row_made1 rfl (Nat.le_refl _), by (repeat' (first | (with_reducible exact Below.refl _ _) | (with_reducible assumption) | (with_reducible refine Below.alloc ?_ ?_ _) | (with_reducible refine Below.drew ?_) | (with_reducible refine belowDrewN ?_ _) | (with_reducible refine Below.setCell ?_ ?_ _) | (with_reducible refine Below.via (by with_reducible assumption) ?_ ?_) | (with_reducible refine Below.viaD (by with_reducible assumption) ?_ ?_) | (with_reducible exact Below.size (by with_reducible assumption)) | go_size | (with_reducible refine Nat.le_trans ?_ (Below.size (by with_reducible assumption))) | (with_reducible refine Nat.le_trans ?_ (sizeAlloc _ _)) | (with_reducible refine Nat.le_trans ?_ (sizeSet _ _ _)) | (with_reducible refine Nat.le_trans ?_ (sizeDrew _))))⟩
      case round =>
        obtain ⟨k, hk, rfl, hown, hbl⟩ := hrel
        have HBL := Lib.hid hbl
        have hbs := hbl.size
        by_cases hlt : k < m
        · obtain ⟨b, off, z, z', rfl, hb, HK1, HK2, hc1, hc2⟩ := (HSL.out.later hbl).both hlt hpm
          obtain rfl : x = z' := HXP.out.symm.trans HK2.out
          have hml := tdZ_len Z x k
          have HX : Hid (tdZ Z x (k + 1) = tdZ Z x k ++ (if z == x then [(k : Int)] else [])) := by unfold Hid; rw [tdZ, HK1.out]
          clear hbl
          revert hown hml HX
          generalize tdZ Z x k = L
          intro hown hml HX
          have HO := Lib.hid hown
          clear hown
          cases p1 : (z == x)
          case true =>
            have HX2 : Hid (tdZ Z x (k + 1) = L ++ [(k : Int)]) := by unfold Hid; rw [HX.out, p1]; rfl
            go_wp2_with fail
            first | (refine wp_region_quiet_lit (by kernel_rfl) (by kernel_rfl) ?_; refine WQ.of ?_; (repeat (refine WQ.step (fun K hK => ?_); go_simp; first | (refine hK _ ?_; clear hK K) | (apply Exists.intro; refine ⟨fun _ => ?_, hK _ ?_⟩; (fail); clear hK K))); refine WQ.nil ?_; intro _ hw'; obtain ⟨nq, hw''⟩ := hw'; subst hw'') | go_quiet (fail)
            go_wp2_with (at_builtin; refine wpList_append_sl _ rfl _ _ 27 rfl w2.heap.size 2 i0 _ 1 8 Try.underlying27 ti tz0 tz1 tz2 rfl (by decide) _ L.length (L.map (Value.int .i64)) rfl ((row_drewK HO.out _).alloc _) (wr.heap.size + 1) _ 1 1 [.int .i64 k] rfl (Sl.built (by simp) (by simp) rfl) ?c1 ?c2 ?c3 ?c4 ?_)
            case c1 => intro u hu; simp at hu; subst hu; rfl
            case c2 => unfold maxLen; omega
            case c3 => omega
            case c4 => first | (simp; done) | (simp; omega)
            intro v' w4 hown4 hg4 _
            have hbn : Below w2.heap.size w2 w4 := below_app (by have := HBL.out; (repeat' (first | (with_reducible exact Below.refl _ _) | (with_reducible assumption) | (with_reducible refine Below.alloc ?_ ?_ _) | (with_reducible refine Below.drew ?_) | (with_reducible refine belowDrewN ?_ _) | (with_reducible refine Below.setCell ?_ ?_ _) | (with_reducible refine Below.via (by with_reducible assumption) ?_ ?_) | (with_reducible refine Below.viaD (by with_reducible assumption) ?_ ?_) | (with_reducible exact Below.size (by with_reducible assumption)) | go_size | (with_reducible refine Nat.le_trans ?_ (Below.size (by with_reducible assumption))) | (with_reducible refine Nat.le_trans ?_ (sizeAlloc _ _)) | (with_reducible refine Nat.le_trans ?_ (sizeSet _ _ _)) | (with_reducible refine Nat.le_trans ?_ (sizeDrew _))))) ((row_drewK HO.out _).alloc _) hg4 (Nat.le_refl _) (by simp; omega)
            have HO4 := Lib.hid hown4
            clear hown4 hg4
            go_wp2_with fail
            go_roundw
            case rel => exact ⟨k + 1, by omega, by go_num, by rw [HX2.out, List.length_append, List.map_append]; exact HO4.out, hbn⟩
            case measure => first | (simp [intOf]; done) | (simp [intOf]; omega)
          case false =>
            have HX2 : Hid (tdZ Z x (k + 1) = L) := by unfold Hid; rw [HX.out, p1]; simp
            go_wp2_with fail
            first | (refine wp_region_quiet_lit (by kernel_rfl) (by kernel_rfl) ?_; refine WQ.of ?_; (repeat (refine WQ.step (fun K hK => ?_); go_simp; first | (refine hK _ ?_; clear hK K) | (apply Exists.intro; refine ⟨fun _ => ?_, hK _ ?_⟩; (fail); clear hK K))); refine WQ.nil ?_; intro _ hw'; obtain ⟨nq, hw''⟩ := hw'; subst hw'') | go_quiet (fail)
            go_wp2_with fail
            go_roundw
            case rel => exact ⟨k + 1, by omega, by go_num, by rw [HX2.out]; exact row_drewK HO.out _, by have := HBL.out; (repeat' (first | (with_reducible exact Below.refl _ _) | (with_reducible assumption) | (with_reducible refine Below.alloc ?_ ?_ _) | (with_reducible refine Below.drew ?_) | (with_reducible refine belowDrewN ?_ _) | (with_reducible refine Below.setCell ?_ ?_ _) | (with_reducible refine Below.via (by with_reducible assumption) ?_ ?_) | (with_reducible refine Below.viaD (by with_reducible assumption) ?_ ?_) | (with_reducible exact Below.size (by with_reducible assumption)) | go_size | (with_reducible refine Nat.le_trans ?_ (Below.size (by with_reducible assumption))) | (with_reducible refine Nat.le_trans ?_ (sizeAlloc _ _)) | (with_reducible refine Nat.le_trans ?_ (sizeSet _ _ _)) | (with_reducible refine Nat.le_trans ?_ (sizeDrew _))))⟩
            case measure => first | (simp [intOf]; done) | (simp [intOf]; omega)
        · obtain rfl : k = m := by omega
          have hl : tdZ Z x k = l := by rw [← HXP.out]; exact HE.out
          rw [hl] at hown
          obtain ⟨A9, g9, cap9, rfl, hg9, hnc, hcm, ho9⟩ := own_of_row hown
          clear hown
          go_wp2_with fail
          go_ret2
          exact ⟨A9, g9, cap9, rfl, Nat.le_trans HB2.out.size hg9, ho9, Below.via hbl HB2.out HB2.out.size⟩
end Go.Proofs.Ytlogcbiebpfmlaa
