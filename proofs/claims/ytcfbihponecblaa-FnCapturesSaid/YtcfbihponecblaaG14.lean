/- Captures: what is taken, by the program, in all kinds. Conditions: lengths below 2^20. -/
import Derived.Test.YtcfbihponecblaaG13
namespace Go.Proofs.Ytcfbihponecblaa
set_option linter.unusedSimpArgs false
set_option linter.unusedVariables false
open Go.RowKit

theorem Sl.two {w : World} {B n : Nat} {A : Option Addr} {zs : List Int} (h : Sl w B 1 A n (zs.map (Value.int .i64))) {k m : Nat} (hk : k < n) (hm : m < n) :
    ∃ b off z z', A = some ⟨b, off, none⟩ ∧ b < B ∧ Hid (zs.getD k 0 = z) ∧ Hid (zs.getD m 0 = z') ∧ w.cell? ⟨b, off + k, none⟩ = some (.int .i64 z) ∧ w.cell? ⟨b, off + m, none⟩ = some (.int .i64 z') := by
  obtain ⟨b, off, e, hb, hc⟩ := h.2 (by omega)
  have hl := h.1
  rw [List.length_map] at hl
  exact ⟨b, off, _, _, e, hb, rfl, rfl, hc k _ (getD_map_int (by omega)), hc m _ (getD_map_int (by omega))⟩
set_option maxRecDepth 100000 in
set_option maxHeartbeats 2000000 in
theorem taken_neg (r : Ru) (last pl : Int) (A1 A2 : Option Addr) (n1 c1 n2 c2 : Nat) (laps : Int) (w : World) (hl : last < 0) :
    Calls Try.prog 32 #[.agg #[.int .i64 r.p, .int .i64 r.s, .bool r.st, .bool r.sk, .bool r.re, .bool r.fe, .bool r.ag, .int .i64 r.ca, .int .i64 r.sl], .agg #[.slice A1 n1 c1, .slice A2 n2 c2, .int .i64 last, .int .i64 laps], .int .i64 pl] w (TkPost [] w) := by
  go_enter Try.func32, Try.ntmps32
  go_wp2_with fail
  go_ret
  exact ⟨_, w.heap.size + 2, 0, rfl, by omega, Nat.le_refl _, Nat.zero_le _, OwnV.none _ _ _ _ _, by (repeat' (first | (with_reducible exact Below.refl _ _) | (with_reducible assumption) | (with_reducible refine Below.alloc ?_ ?_ _) | (with_reducible refine Below.drew ?_) | (with_reducible refine belowDrewN ?_ _) | (with_reducible refine Below.setCell ?_ ?_ _) | (with_reducible refine Below.via (by with_reducible assumption) ?_ ?_) | (with_reducible refine Below.viaD (by with_reducible assumption) ?_ ?_) | (with_reducible exact Below.size (by with_reducible assumption)) | go_size | (with_reducible refine Nat.le_trans ?_ (Below.size (by with_reducible assumption))) | (with_reducible refine Nat.le_trans ?_ (sizeAlloc _ _)) | (with_reducible refine Nat.le_trans ?_ (sizeSet _ _ _)) | (with_reducible refine Nat.le_trans ?_ (sizeDrew _))))⟩
set_option maxRecDepth 100000 in
set_option maxHeartbeats 2000000 in
theorem taken_0 (r : Ru) (P k : Nat) (pl : Int) (A1 A2 : Option Addr) (n1 c1 n2 c2 : Nat) (laps : Int) (w : World) (hP : r.p = (P : Int)) (h2 : 2 ≤ P) (h8 : P ≤ 8) (hk : k < 2 * P) (g1 : r.ca ≠ 1) (g2 : r.ca ≠ 2) (g3 : r.ca ≠ 3) :
    Calls Try.prog 32 #[.agg #[.int .i64 r.p, .int .i64 r.s, .bool r.st, .bool r.sk, .bool r.re, .bool r.fe, .bool r.ag, .int .i64 r.ca, .int .i64 r.sl], .agg #[.slice A1 n1 c1, .slice A2 n2 c2, .int .i64 k, .int .i64 laps], .int .i64 pl] w (TkPost [] w) := by
  have HP := Lib.hid hP
  have q1 : (r.ca == 1) = false := beq_eq_false_iff_ne.2 g1
  have q2 : (r.ca == 2) = false := beq_eq_false_iff_ne.2 g2
  have q3 : (r.ca == 3) = false := beq_eq_false_iff_ne.2 g3
  clear hP g1 g2 g3
  obtain ⟨o, ho⟩ : ∃ o, ownI P k = o := ⟨_, rfl⟩
  have HO := Lib.hid ho
  clear ho
  go_enter Try.func32, Try.ntmps32
  go_wp2_with (go_at_call 34; refine (owner_lit r P k o _ HP.out h2 h8 hk HO.out).mono ?_; rintro e w_ ⟨rfl, rfl⟩)
  go_ret
  exact ⟨_, w.heap.size + 2, 0, rfl, by omega, Nat.le_refl _, Nat.zero_le _, OwnV.none _ _ _ _ _, by (repeat' (first | (with_reducible exact Below.refl _ _) | (with_reducible assumption) | (with_reducible refine Below.alloc ?_ ?_ _) | (with_reducible refine Below.drew ?_) | (with_reducible refine belowDrewN ?_ _) | (with_reducible refine Below.setCell ?_ ?_ _) | (with_reducible refine Below.via (by with_reducible assumption) ?_ ?_) | (with_reducible refine Below.viaD (by with_reducible assumption) ?_ ?_) | (with_reducible exact Below.size (by with_reducible assumption)) | go_size | (with_reducible refine Nat.le_trans ?_ (Below.size (by with_reducible assumption))) | (with_reducible refine Nat.le_trans ?_ (sizeAlloc _ _)) | (with_reducible refine Nat.le_trans ?_ (sizeSet _ _ _)) | (with_reducible refine Nat.le_trans ?_ (sizeDrew _))))⟩
set_option maxRecDepth 100000 in
set_option maxHeartbeats 2000000 in
theorem taken_3 (r : Ru) (P k : Nat) (pl : Int) (zs : List Int) (A1 A2 : Option Addr) (n1 c1 n2 c2 : Nat) (laps : Int) (l : List Int) (w : World) (s1 : Sl w w.heap.size 1 A1 n1 (zs.map (Value.int .i64))) (hP : r.p = (P : Int)) (h2 : 2 ≤ P) (h8 : P ≤ 8) (hn : n1 = 2 * P) (hk : k < 2 * P) (hca : r.ca = 3) (hz0 : 0 ≤ zs.getD k 0) (hz1 : zs.getD k 0 ≤ 96) (hl : (if ownI P k ≠ pl ∧ (zs.getD k 0).tmod 2 = 0 then [(k : Int)] else []) = l) :
    Calls Try.prog 32 #[.agg #[.int .i64 r.p, .int .i64 r.s, .bool r.st, .bool r.sk, .bool r.re, .bool r.fe, .bool r.ag, .int .i64 r.ca, .int .i64 r.sl], .agg #[.slice A1 n1 c1, .slice A2 n2 c2, .int .i64 k, .int .i64 laps], .int .i64 pl] w (TkPost l w) := by
  have HP := Lib.hid hP
  have q1 : (r.ca == 1) = false := beq_eq_false_iff_ne.2 (by omega)
  have q2 : (r.ca == 2) = false := beq_eq_false_iff_ne.2 (by omega)
  have q3 : (r.ca == 3) = true := beq_iff_eq.2 hca
  subst hn
  clear hP hca
  obtain ⟨o, ho⟩ : ∃ o, ownI P k = o := ⟨_, rfl⟩
  have HO := Lib.hid ho
  rw [ho] at hl
  clear ho
  obtain ⟨b, off, z, rfl, hb, HZ, hc⟩ := s1.int (k := k) hk
  rw [HZ.out] at hl hz0 hz1
  have hb1 : b < w.heap.size + 1 := by omega
  have hb2 : b < w.heap.size + 1 + 1 := by omega
  have hb3 : b < w.heap.size + 1 + 1 + 1 := by omega
  have hb4 : b < w.heap.size + 1 + 1 + 1 + 1 := by omega
  clear s1
  obtain ⟨i0, ti, tz0, tz1, tz2⟩ := info_parts info_int64t
  obtain ⟨t, ht⟩ : ∃ t, z.tmod 2 = t := ⟨_, rfl⟩
  have ht0 : IntKind.i64.wrap t = t := IntWalk.i64_in _ (by have := Int.tmod_lt_of_pos z (b := 2) (by omega); have := Int.tmod_nonneg (a := z) 2 hz0; omega)
  have hw : IntKind.i64.wrap (z.tmod 2) = z.tmod 2 := by rw [ht]; exact ht0
  rw [ht] at hl
  have HL := Lib.hid hl
  clear hl
  cases p1 : (o == pl)
  case true =>
    obtain rfl : l = [] := by rw [← HL.out, if_neg (by simpa using fun h => absurd (beq_iff_eq.1 p1) h)]
    go_enter Try.func32, Try.ntmps32
    go_wp2_with (go_at_call 34; refine (owner_lit r P k o _ HP.out h2 h8 hk HO.out).mono ?_; rintro e w_ ⟨rfl, rfl⟩)
    go_ret
    exact ⟨_, w.heap.size + 2, 0, rfl, by omega, Nat.le_refl _, Nat.zero_le _, OwnV.none _ _ _ _ _, by (repeat' (first | (with_reducible exact Below.refl _ _) | (with_reducible assumption) | (with_reducible refine Below.alloc ?_ ?_ _) | (with_reducible refine Below.drew ?_) | (with_reducible refine belowDrewN ?_ _) | (with_reducible refine Below.setCell ?_ ?_ _) | (with_reducible refine Below.via (by with_reducible assumption) ?_ ?_) | (with_reducible refine Below.viaD (by with_reducible assumption) ?_ ?_) | (with_reducible exact Below.size (by with_reducible assumption)) | go_size | (with_reducible refine Nat.le_trans ?_ (Below.size (by with_reducible assumption))) | (with_reducible refine Nat.le_trans ?_ (sizeAlloc _ _)) | (with_reducible refine Nat.le_trans ?_ (sizeSet _ _ _)) | (with_reducible refine Nat.le_trans ?_ (sizeDrew _))))⟩
  case false =>
    cases p2 : (t == 0)
    case false =>
      obtain rfl : l = [] := by rw [← HL.out, if_neg (fun h => absurd h.2 (beq_eq_false_iff_ne.1 p2))]
      go_enter Try.func32, Try.ntmps32
      go_wp2_with (go_at_call 34; refine (owner_lit r P k o _ HP.out h2 h8 hk HO.out).mono ?_; rintro e w_ ⟨rfl, rfl⟩)
      go_ret
      exact ⟨_, w.heap.size + 2, 0, rfl, by omega, Nat.le_refl _, Nat.zero_le _, OwnV.none _ _ _ _ _, by (repeat' (first | (with_reducible exact Below.refl _ _) | (with_reducible assumption) | (with_reducible refine Below.alloc ?_ ?_ _) | (with_reducible refine Below.drew ?_) | (with_reducible refine belowDrewN ?_ _) | (with_reducible refine Below.setCell ?_ ?_ _) | (with_reducible refine Below.via (by with_reducible assumption) ?_ ?_) | (with_reducible refine Below.viaD (by with_reducible assumption) ?_ ?_) | (with_reducible exact Below.size (by with_reducible assumption)) | go_size | (with_reducible refine Nat.le_trans ?_ (Below.size (by with_reducible assumption))) | (with_reducible refine Nat.le_trans ?_ (sizeAlloc _ _)) | (with_reducible refine Nat.le_trans ?_ (sizeSet _ _ _)) | (with_reducible refine Nat.le_trans ?_ (sizeDrew _))))⟩
    case true =>
      obtain rfl : l = [(k : Int)] := by rw [← HL.out, if_pos ⟨beq_eq_false_iff_ne.1 p1, beq_iff_eq.1 p2⟩]
      go_enter Try.func32, Try.ntmps32
      go_wp2_with (first | (go_at_call 34; refine (owner_lit r P k o _ HP.out h2 h8 hk HO.out).mono ?_; rintro e w_ ⟨rfl, rfl⟩) | (at_builtin; refine wpList_append_sl _ rfl _ _ 26 rfl (w.heap.size + 2) 2 i0 _ 1 8 Try.underlying26 ti tz0 tz1 tz2 rfl (by decide) _ 0 [] rfl (((row_made0 (by simp) (Nat.le_refl _)).alloc _).alloc _) (w.heap.size + 5) _ 1 1 [.int .i64 k] rfl (Sl.built (by simp) (by simp) rfl) ?c1 ?c2 ?c3 ?c4 ?_))
      case c1 => intro u hu; simp at hu; subst hu; rfl
      case c2 => unfold maxLen; omega
      case c3 => omega
      case c4 => simp
      intro v' w1 hown1 hg1 _
      have hbn : Below w.heap.size w w1 := below_app (by (repeat' (first | (with_reducible exact Below.refl _ _) | (with_reducible assumption) | (with_reducible refine Below.alloc ?_ ?_ _) | (with_reducible refine Below.drew ?_) | (with_reducible refine belowDrewN ?_ _) | (with_reducible refine Below.setCell ?_ ?_ _) | (with_reducible refine Below.via (by with_reducible assumption) ?_ ?_) | (with_reducible refine Below.viaD (by with_reducible assumption) ?_ ?_) | (with_reducible exact Below.size (by with_reducible assumption)) | go_size | (with_reducible refine Nat.le_trans ?_ (Below.size (by with_reducible assumption))) | (with_reducible refine Nat.le_trans ?_ (sizeAlloc _ _)) | (with_reducible refine Nat.le_trans ?_ (sizeSet _ _ _)) | (with_reducible refine Nat.le_trans ?_ (sizeDrew _))))) (((row_made0 (by simp) (Nat.le_refl _)).alloc _).alloc _) hg1 (Nat.le_add_right _ 2) (by simp; omega)
      obtain ⟨A', g, cap, rfl, hg, hnc, hcm, ho'⟩ := own_of_row hown1
      have HN := Lib.hid hbn
      clear hown1 hg1 hbn
      go_wp2_with fail
      go_ret
      exact ⟨A', g, cap, rfl, by omega, hnc, hcm, ho', HN.out⟩
set_option maxRecDepth 100000 in
set_option maxHeartbeats 2000000 in
theorem taken_2 (r : Ru) (P k m : Nat) (pl : Int) (zs : List Int) (A1 A2 : Option Addr) (n1 c1 n2 c2 : Nat) (laps : Int) (l : List Int) (w : World) (s1 : Sl w w.heap.size 1 A1 n1 (zs.map (Value.int .i64))) (hP : r.p = (P : Int)) (h2 : 2 ≤ P) (h8 : P ≤ 8) (hn : n1 = 2 * P) (hk : k < 2 * P) (hkm : k + m + 1 = 2 * P) (hca : r.ca = 2) (hl : (if ownI P k = pl ∧ zs.getD k 0 = 1 ∧ 0 < zs.getD m 0 then [(k : Int), (m : Int)] else []) = l) :
    Calls Try.prog 32 #[.agg #[.int .i64 r.p, .int .i64 r.s, .bool r.st, .bool r.sk, .bool r.re, .bool r.fe, .bool r.ag, .int .i64 r.ca, .int .i64 r.sl], .agg #[.slice A1 n1 c1, .slice A2 n2 c2, .int .i64 k, .int .i64 laps], .int .i64 pl] w (TkPost l w) := by
  have HP := Lib.hid hP
  have q1 : (r.ca == 1) = false := beq_eq_false_iff_ne.2 (by omega)
  have q2 : (r.ca == 2) = true := beq_iff_eq.2 hca
  subst hn
  clear hP hca
  obtain ⟨o, ho⟩ : ∃ o, ownI P k = o := ⟨_, rfl⟩
  have HO := Lib.hid ho
  rw [ho] at hl
  clear ho
  have hm : m < 2 * P := by omega
  obtain ⟨b, off, z, z', rfl, hb, HZ, HZ', hc, hc'⟩ := s1.two hk hm
  rw [HZ.out, HZ'.out] at hl
  have hb1 : b < w.heap.size + 1 := by omega
  have hb2 : b < w.heap.size + 1 + 1 := by omega
  have hb3 : b < w.heap.size + 1 + 1 + 1 := by omega
  have hb4 : b < w.heap.size + 1 + 1 + 1 + 1 := by omega
  have hb5 : b < w.heap.size + 1 + 1 + 1 + 1 + 1 := by omega
  clear s1
  obtain ⟨i0, ti, tz0, tz1, tz2⟩ := info_parts info_int64t
  have HL := Lib.hid hl
  clear hl
  cases p1 : (o == pl)
  case false =>
    obtain rfl : l = [] := by rw [← HL.out, if_neg (fun h => absurd h.1 (beq_eq_false_iff_ne.1 p1))]
    go_enter Try.func32, Try.ntmps32
    go_wp2_with (first | (go_at_call 34; refine (owner_lit r P k o _ HP.out h2 h8 hk HO.out).mono ?_; rintro e w_ ⟨rfl, rfl⟩) | (go_at_call 43; refine (opposite_lit r P k m _ HP.out h2 h8 hkm).mono ?_; rintro e w_ ⟨rfl, rfl⟩))
    go_ret
    exact ⟨_, w.heap.size + 2, 0, rfl, by omega, Nat.le_refl _, Nat.zero_le _, OwnV.none _ _ _ _ _, by (repeat' (first | (with_reducible exact Below.refl _ _) | (with_reducible assumption) | (with_reducible refine Below.alloc ?_ ?_ _) | (with_reducible refine Below.drew ?_) | (with_reducible refine belowDrewN ?_ _) | (with_reducible refine Below.setCell ?_ ?_ _) | (with_reducible refine Below.via (by with_reducible assumption) ?_ ?_) | (with_reducible refine Below.viaD (by with_reducible assumption) ?_ ?_) | (with_reducible exact Below.size (by with_reducible assumption)) | go_size | (with_reducible refine Nat.le_trans ?_ (Below.size (by with_reducible assumption))) | (with_reducible refine Nat.le_trans ?_ (sizeAlloc _ _)) | (with_reducible refine Nat.le_trans ?_ (sizeSet _ _ _)) | (with_reducible refine Nat.le_trans ?_ (sizeDrew _))))⟩
  case true =>
    cases p2 : (z == 1)
    case false =>
      obtain rfl : l = [] := by rw [← HL.out, if_neg (fun h => absurd h.2.1 (beq_eq_false_iff_ne.1 p2))]
      go_enter Try.func32, Try.ntmps32
      go_wp2_with (first | (go_at_call 34; refine (owner_lit r P k o _ HP.out h2 h8 hk HO.out).mono ?_; rintro e w_ ⟨rfl, rfl⟩) | (go_at_call 43; refine (opposite_lit r P k m _ HP.out h2 h8 hkm).mono ?_; rintro e w_ ⟨rfl, rfl⟩))
      go_ret
      exact ⟨_, w.heap.size + 2, 0, rfl, by omega, Nat.le_refl _, Nat.zero_le _, OwnV.none _ _ _ _ _, by (repeat' (first | (with_reducible exact Below.refl _ _) | (with_reducible assumption) | (with_reducible refine Below.alloc ?_ ?_ _) | (with_reducible refine Below.drew ?_) | (with_reducible refine belowDrewN ?_ _) | (with_reducible refine Below.setCell ?_ ?_ _) | (with_reducible refine Below.via (by with_reducible assumption) ?_ ?_) | (with_reducible refine Below.viaD (by with_reducible assumption) ?_ ?_) | (with_reducible exact Below.size (by with_reducible assumption)) | go_size | (with_reducible refine Nat.le_trans ?_ (Below.size (by with_reducible assumption))) | (with_reducible refine Nat.le_trans ?_ (sizeAlloc _ _)) | (with_reducible refine Nat.le_trans ?_ (sizeSet _ _ _)) | (with_reducible refine Nat.le_trans ?_ (sizeDrew _))))⟩
    case true =>
      by_cases p3 : 0 < z'
      case neg =>
        obtain rfl : l = [] := by rw [← HL.out, if_neg (fun h => absurd h.2.2 p3)]
        go_enter Try.func32, Try.ntmps32
        go_wp2_with (first | (go_at_call 34; refine (owner_lit r P k o _ HP.out h2 h8 hk HO.out).mono ?_; rintro e w_ ⟨rfl, rfl⟩) | (go_at_call 43; refine (opposite_lit r P k m _ HP.out h2 h8 hkm).mono ?_; rintro e w_ ⟨rfl, rfl⟩))
        go_ret
        exact ⟨_, w.heap.size + 2, 0, rfl, by omega, Nat.le_refl _, Nat.zero_le _, OwnV.none _ _ _ _ _, by (repeat' (first | (with_reducible exact Below.refl _ _) | (with_reducible assumption) | (with_reducible refine Below.alloc ?_ ?_ _) | (with_reducible refine Below.drew ?_) | (with_reducible refine belowDrewN ?_ _) | (with_reducible refine Below.setCell ?_ ?_ _) | (with_reducible refine Below.via (by with_reducible assumption) ?_ ?_) | (with_reducible refine Below.viaD (by with_reducible assumption) ?_ ?_) | (with_reducible exact Below.size (by with_reducible assumption)) | go_size | (with_reducible refine Nat.le_trans ?_ (Below.size (by with_reducible assumption))) | (with_reducible refine Nat.le_trans ?_ (sizeAlloc _ _)) | (with_reducible refine Nat.le_trans ?_ (sizeSet _ _ _)) | (with_reducible refine Nat.le_trans ?_ (sizeDrew _))))⟩
      case pos =>
        obtain rfl : l = [(k : Int), (m : Int)] := by rw [← HL.out, if_pos ⟨beq_iff_eq.1 p1, beq_iff_eq.1 p2, p3⟩]
        go_enter Try.func32, Try.ntmps32
        go_wp2_with (first | (go_at_call 34; refine (owner_lit r P k o _ HP.out h2 h8 hk HO.out).mono ?_; rintro e w_ ⟨rfl, rfl⟩) | (go_at_call 43; refine (opposite_lit r P k m _ HP.out h2 h8 hkm).mono ?_; rintro e w_ ⟨rfl, rfl⟩) | (at_builtin; refine wpList_append_sl _ rfl _ _ 26 rfl (w.heap.size + 2) 2 i0 _ 1 8 Try.underlying26 ti tz0 tz1 tz2 rfl (by decide) _ 0 [] rfl ((((row_made0 (by simp) (Nat.le_refl _)).alloc _).alloc _).alloc _) (w.heap.size + 6) _ 2 2 [.int .i64 k, .int .i64 m] rfl (Sl.built (by simp) (by simp) rfl) ?c1 ?c2 ?c3 ?c4 ?_))
        case c1 => intro u hu; simp at hu; rcases hu with rfl | rfl <;> rfl
        case c2 => unfold maxLen; omega
        case c3 => omega
        case c4 => simp
        intro v' w1 hown1 hg1 _
        have hbn : Below w.heap.size w w1 := below_app (by (repeat' (first | (with_reducible exact Below.refl _ _) | (with_reducible assumption) | (with_reducible refine Below.alloc ?_ ?_ _) | (with_reducible refine Below.drew ?_) | (with_reducible refine belowDrewN ?_ _) | (with_reducible refine Below.setCell ?_ ?_ _) | (with_reducible refine Below.via (by with_reducible assumption) ?_ ?_) | (with_reducible refine Below.viaD (by with_reducible assumption) ?_ ?_) | (with_reducible exact Below.size (by with_reducible assumption)) | go_size | (with_reducible refine Nat.le_trans ?_ (Below.size (by with_reducible assumption))) | (with_reducible refine Nat.le_trans ?_ (sizeAlloc _ _)) | (with_reducible refine Nat.le_trans ?_ (sizeSet _ _ _)) | (with_reducible refine Nat.le_trans ?_ (sizeDrew _))))) ((((row_made0 (by simp) (Nat.le_refl _)).alloc _).alloc _).alloc _) hg1 (Nat.le_add_right _ 2) (by simp; omega)
        obtain ⟨A', g, cap, rfl, hg, hnc, hcm, ho'⟩ := own_of_row hown1
        have HN := Lib.hid hbn
        clear hown1 hg1 hbn
        go_wp2_with fail
        go_ret
        exact ⟨A', g, cap, rfl, by omega, hnc, hcm, ho', HN.out⟩
/-- What is taken, with the last pit as it lies. -/
def takenL (P : Nat) (pl ca last : Int) (zs : List Int) : List Int := if last < 0 then [] else takenK P pl ca zs last.toNat
theorem takenL_in {P : Nat} {pl ca last : Int} {zs : List Int} (h2 : 2 ≤ P) (hk : last < 2 * (P : Int)) : inPits P (takenL P pl ca last zs) := by
  unfold takenL
  split
  · exact inPits_nil P
  · exact takenK_in h2 (by omega)
theorem taken_any (r : Ru) (P : Nat) (pl last : Int) (zs : List Int) (A1 A2 : Option Addr) (n1 c1 n2 c2 : Nat) (laps : Int) (l : List Int) (w : World) (s1 : Sl w w.heap.size 1 A1 n1 (zs.map (Value.int .i64))) (hP : r.p = (P : Int)) (h2 : 2 ≤ P) (h8 : P ≤ 8) (hn : n1 = 2 * P) (hk : last < 2 * (P : Int)) (ho : okL zs = true) (hl : takenL P pl r.ca last zs = l) :
    Calls Try.prog 32 #[.agg #[.int .i64 r.p, .int .i64 r.s, .bool r.st, .bool r.sk, .bool r.re, .bool r.fe, .bool r.ag, .int .i64 r.ca, .int .i64 r.sl], .agg #[.slice A1 n1 c1, .slice A2 n2 c2, .int .i64 last, .int .i64 laps], .int .i64 pl] w (TkPost l w) := by
  unfold takenL at hl
  by_cases hneg : last < 0
  · rw [if_pos hneg] at hl
    subst hl
    exact taken_neg r last pl A1 A2 n1 c1 n2 c2 laps w hneg
  · rw [if_neg hneg] at hl
    obtain ⟨k, rfl⟩ := Int.eq_ofNat_of_zero_le (show 0 ≤ last by omega)
    rw [Int.toNat_natCast] at hl
    have hk2 : k < 2 * P := by omega
    have hzl := s1.ints
    have hz := inB_of (List.all_eq_true.1 ho _ (getD_mem 0 (show k < zs.length by omega)))
    unfold takenK at hl
    by_cases g1 : r.ca = 1
    · rw [if_pos g1] at hl
      exact taken_1 r P k pl zs A1 A2 n1 c1 n2 c2 laps l w s1 hP h2 h8 hn hk2 g1 hl
    · rw [if_neg g1] at hl
      by_cases g2 : r.ca = 2
      · rw [if_pos g2] at hl
        exact taken_2 r P k (2 * P - 1 - k) pl zs A1 A2 n1 c1 n2 c2 laps l w s1 hP h2 h8 hn hk2 (by omega) g2 hl
      · rw [if_neg g2] at hl
        by_cases g3 : r.ca = 3
        · rw [if_pos g3] at hl
          exact taken_3 r P k pl zs A1 A2 n1 c1 n2 c2 laps l w s1 hP h2 h8 hn hk2 g3 hz.1 hz.2 hl
        · rw [if_neg g3] at hl
          subst hl
          exact taken_0 r P k pl A1 A2 n1 c1 n2 c2 laps w hP h2 h8 hk2 g1 g2 g3
end Go.Proofs.Ytcfbihponecblaa
