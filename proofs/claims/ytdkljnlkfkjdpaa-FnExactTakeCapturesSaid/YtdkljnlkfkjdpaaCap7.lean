/- Captures: what is taken, by the reference, in all kinds. Conditions: lengths below 2^20. -/
import Derived.Test.YtdkljnlkfkjdpaaCap6
namespace Go.Proofs.Ytdkljnlkfkjdpaa
set_option linter.unusedSimpArgs false
set_option linter.unusedVariables false
open Go.RowKit

theorem row_drewN {w : World} {base : Nat} {e : TypeId} {size n : Nat} {v : Value} {xs : List Value} (h : w.ownsRow base e size v n xs) (k : Nat) : (w.drewN k).ownsRow base e size v n xs := h
set_option maxRecDepth 100000 in
set_option maxHeartbeats 2000000 in
theorem raw_3 (r : Ru) (P k b of b2 o2 : Nat) (pl : Int) (A1 A2 : Option Addr) (n1 c1 n2 c2 : Nat) (d : SownD) (l : List Int) (w : World) (hr : RuAt w b of r) (hs : SownAt w b2 o2 A1 n1 c1 A2 n2 c2 d) (hP : r.p = (P : Int)) (h2 : 2 ≤ P) (h8 : P ≤ 8) (hn : n1 = 2 * P) (hd : d.last = (k : Int)) (hk : k < 2 * P) (hca : r.ca = 3) (hz0 : 0 ≤ d.pits.getD k 0) (hz1 : d.pits.getD k 0 ≤ 96) (hl : (if ownI P k ≠ pl ∧ (d.pits.getD k 0).tmod 2 = 0 then [(k : Int)] else []) = l) :
    Calls Try.prog 45 #[.pointer (some ⟨b, of, none⟩), .pointer (some ⟨b2, o2, none⟩), .int .i64 pl] w (TkPost l w) := by
  obtain ⟨p0, p1, p2, p3, s1, s2⟩ := hs
  have r7 := hr.c7
  have hlb := cell_lt r7
  have hlb2 := cell_lt p0
  have HR := Lib.hid hr
  have HP := Lib.hid hP
  subst hn
  clear hP hr s2
  rw [hd] at p2
  have q1 : (r.ca == 1) = false := beq_eq_false_iff_ne.2 (by omega)
  have q2 : (r.ca == 2) = false := beq_eq_false_iff_ne.2 (by omega)
  have q3 : (r.ca == 3) = true := beq_iff_eq.2 hca
  clear hd hca
  obtain ⟨o, ho⟩ : ∃ o, ownI P k = o := ⟨_, rfl⟩
  have HO := Lib.hid ho
  rw [ho] at hl
  clear ho
  obtain ⟨b3, off, z, rfl, hb, HZ, hc⟩ := s1.int (k := k) hk
  rw [HZ.out] at hl hz0 hz1
  clear s1
  obtain ⟨i0, ti, tz0, tz1, tz2⟩ := info_parts info_int64t
  obtain ⟨t, ht⟩ : ∃ t, z.tmod 2 = t := ⟨_, rfl⟩
  have ht0 : IntKind.i64.wrap t = t := IntWalk.i64_in _ (by have := Int.tmod_lt_of_pos z (b := 2) (by omega); have := Int.tmod_nonneg (a := z) 2 hz0; omega)
  have hw : IntKind.i64.wrap (z.tmod 2) = z.tmod 2 := by rw [ht]; exact ht0
  rw [ht] at hl
  have HL := Lib.hid hl
  clear hl
  cases p1' : (o == pl)
  case true =>
    obtain rfl : l = [] := by rw [← HL.out, if_neg (by simpa using fun h => absurd (beq_iff_eq.1 p1') h)]
    go_enter Try.func45, Try.ntmps45
    go_wp2_with (go_at_call 46; (with_reducible refine Calls.mono (l02Owner_lit r P k b of o _ ?_ HP.out h2 h8 hk HO.out) ?_); (exact HR.out.later (by (repeat' (first | (with_reducible exact Below.refl _ _) | (with_reducible assumption) | (with_reducible refine Below.alloc ?_ ?_ _) | (with_reducible refine Below.drew ?_) | (with_reducible refine belowDrewN ?_ _) | (with_reducible refine Below.setCell ?_ ?_ _) | (with_reducible refine Below.via (by with_reducible assumption) ?_ ?_) | (with_reducible refine Below.viaD (by with_reducible assumption) ?_ ?_) | (with_reducible exact Below.size (by with_reducible assumption)) | go_size | (with_reducible refine Nat.le_trans ?_ (Below.size (by with_reducible assumption))) | (with_reducible refine Nat.le_trans ?_ (sizeAlloc _ _)) | (with_reducible refine Nat.le_trans ?_ (sizeSet _ _ _)) | (with_reducible refine Nat.le_trans ?_ (sizeDrew _)))))); rintro e w_ ⟨rfl, rfl⟩)
    go_ret
    exact ⟨_, w.heap.size, 0, rfl, by omega, Nat.le_refl _, Nat.zero_le _, OwnV.none _ _ _ _ _, by (repeat' (first | (with_reducible exact Below.refl _ _) | (with_reducible assumption) | (with_reducible refine Below.alloc ?_ ?_ _) | (with_reducible refine Below.drew ?_) | (with_reducible refine belowDrewN ?_ _) | (with_reducible refine Below.setCell ?_ ?_ _) | (with_reducible refine Below.via (by with_reducible assumption) ?_ ?_) | (with_reducible refine Below.viaD (by with_reducible assumption) ?_ ?_) | (with_reducible exact Below.size (by with_reducible assumption)) | go_size | (with_reducible refine Nat.le_trans ?_ (Below.size (by with_reducible assumption))) | (with_reducible refine Nat.le_trans ?_ (sizeAlloc _ _)) | (with_reducible refine Nat.le_trans ?_ (sizeSet _ _ _)) | (with_reducible refine Nat.le_trans ?_ (sizeDrew _))))⟩
  case false =>
    cases p2' : (t == 0)
    case false =>
      obtain rfl : l = [] := by rw [← HL.out, if_neg (fun h => absurd h.2 (beq_eq_false_iff_ne.1 p2'))]
      go_enter Try.func45, Try.ntmps45
      go_wp2_with (go_at_call 46; (with_reducible refine Calls.mono (l02Owner_lit r P k b of o _ ?_ HP.out h2 h8 hk HO.out) ?_); (exact HR.out.later (by (repeat' (first | (with_reducible exact Below.refl _ _) | (with_reducible assumption) | (with_reducible refine Below.alloc ?_ ?_ _) | (with_reducible refine Below.drew ?_) | (with_reducible refine belowDrewN ?_ _) | (with_reducible refine Below.setCell ?_ ?_ _) | (with_reducible refine Below.via (by with_reducible assumption) ?_ ?_) | (with_reducible refine Below.viaD (by with_reducible assumption) ?_ ?_) | (with_reducible exact Below.size (by with_reducible assumption)) | go_size | (with_reducible refine Nat.le_trans ?_ (Below.size (by with_reducible assumption))) | (with_reducible refine Nat.le_trans ?_ (sizeAlloc _ _)) | (with_reducible refine Nat.le_trans ?_ (sizeSet _ _ _)) | (with_reducible refine Nat.le_trans ?_ (sizeDrew _)))))); rintro e w_ ⟨rfl, rfl⟩)
      go_ret
      exact ⟨_, w.heap.size, 0, rfl, by omega, Nat.le_refl _, Nat.zero_le _, OwnV.none _ _ _ _ _, by (repeat' (first | (with_reducible exact Below.refl _ _) | (with_reducible assumption) | (with_reducible refine Below.alloc ?_ ?_ _) | (with_reducible refine Below.drew ?_) | (with_reducible refine belowDrewN ?_ _) | (with_reducible refine Below.setCell ?_ ?_ _) | (with_reducible refine Below.via (by with_reducible assumption) ?_ ?_) | (with_reducible refine Below.viaD (by with_reducible assumption) ?_ ?_) | (with_reducible exact Below.size (by with_reducible assumption)) | go_size | (with_reducible refine Nat.le_trans ?_ (Below.size (by with_reducible assumption))) | (with_reducible refine Nat.le_trans ?_ (sizeAlloc _ _)) | (with_reducible refine Nat.le_trans ?_ (sizeSet _ _ _)) | (with_reducible refine Nat.le_trans ?_ (sizeDrew _))))⟩
    case true =>
      obtain rfl : l = [(k : Int)] := by rw [← HL.out, if_pos ⟨beq_eq_false_iff_ne.1 p1', beq_iff_eq.1 p2'⟩]
      go_enter Try.func45, Try.ntmps45
      go_wp2_with (first | (go_at_call 46; (with_reducible refine Calls.mono (l02Owner_lit r P k b of o _ ?_ HP.out h2 h8 hk HO.out) ?_); (exact HR.out.later (by (repeat' (first | (with_reducible exact Below.refl _ _) | (with_reducible assumption) | (with_reducible refine Below.alloc ?_ ?_ _) | (with_reducible refine Below.drew ?_) | (with_reducible refine belowDrewN ?_ _) | (with_reducible refine Below.setCell ?_ ?_ _) | (with_reducible refine Below.via (by with_reducible assumption) ?_ ?_) | (with_reducible refine Below.viaD (by with_reducible assumption) ?_ ?_) | (with_reducible exact Below.size (by with_reducible assumption)) | go_size | (with_reducible refine Nat.le_trans ?_ (Below.size (by with_reducible assumption))) | (with_reducible refine Nat.le_trans ?_ (sizeAlloc _ _)) | (with_reducible refine Nat.le_trans ?_ (sizeSet _ _ _)) | (with_reducible refine Nat.le_trans ?_ (sizeDrew _)))))); rintro e w_ ⟨rfl, rfl⟩) | (at_builtin; refine wpList_append_sl _ rfl _ _ 24 rfl w.heap.size 2 i0 _ 1 8 Try.underlying24 ti tz0 tz1 tz2 rfl (by decide) _ 0 [] rfl ((row_made0 rfl (Nat.le_refl _)).alloc _) (w.heap.size + 2) _ 1 1 [.int .i64 k] rfl (Sl.built (by simp) (by simp) rfl) ?c1 ?c2 ?c3 ?c4 ?_))
      case c1 => intro u hu; simp at hu; subst hu; rfl
      case c2 => unfold maxLen; omega
      case c3 => omega
      case c4 => first | (simp; done) | (simp; omega)
      intro v' w1 hown1 hg1 _
      have hbn : Below w.heap.size w w1 := below_app (by (repeat' (first | (with_reducible exact Below.refl _ _) | (with_reducible assumption) | (with_reducible refine Below.alloc ?_ ?_ _) | (with_reducible refine Below.drew ?_) | (with_reducible refine belowDrewN ?_ _) | (with_reducible refine Below.setCell ?_ ?_ _) | (with_reducible refine Below.via (by with_reducible assumption) ?_ ?_) | (with_reducible refine Below.viaD (by with_reducible assumption) ?_ ?_) | (with_reducible exact Below.size (by with_reducible assumption)) | go_size | (with_reducible refine Nat.le_trans ?_ (Below.size (by with_reducible assumption))) | (with_reducible refine Nat.le_trans ?_ (sizeAlloc _ _)) | (with_reducible refine Nat.le_trans ?_ (sizeSet _ _ _)) | (with_reducible refine Nat.le_trans ?_ (sizeDrew _))))) ((row_made0 rfl (Nat.le_refl _)).alloc _) hg1 (Nat.le_refl _) (by simp; omega)
      obtain ⟨A', g, cap, rfl, hg, hnc, hcm, ho'⟩ := own_of_row hown1
      have HN := Lib.hid hbn
      clear hown1 hg1 hbn
      go_wp2_with fail
      go_ret
      exact ⟨A', g, cap, rfl, by omega, hnc, hcm, ho', HN.out⟩
set_option maxRecDepth 100000 in
set_option maxHeartbeats 2000000 in
theorem raw_2 (r : Ru) (P k m b of b2 o2 : Nat) (pl : Int) (A1 A2 : Option Addr) (n1 c1 n2 c2 : Nat) (d : SownD) (l : List Int) (w : World) (hr : RuAt w b of r) (hs : SownAt w b2 o2 A1 n1 c1 A2 n2 c2 d) (hP : r.p = (P : Int)) (h2 : 2 ≤ P) (h8 : P ≤ 8) (hn : n1 = 2 * P) (hd : d.last = (k : Int)) (hk : k < 2 * P) (hkm : k + m + 1 = 2 * P) (hca : r.ca = 2) (hl : (if ownI P k = pl ∧ d.pits.getD k 0 = 1 ∧ 0 < d.pits.getD m 0 then [(k : Int), (m : Int)] else []) = l) :
    Calls Try.prog 45 #[.pointer (some ⟨b, of, none⟩), .pointer (some ⟨b2, o2, none⟩), .int .i64 pl] w (TkPost l w) := by
  obtain ⟨p0, p1, p2, p3, s1, s2⟩ := hs
  have r7 := hr.c7
  have hlb := cell_lt r7
  have hlb2 := cell_lt p0
  have HR := Lib.hid hr
  have HP := Lib.hid hP
  subst hn
  clear hP hr s2
  rw [hd] at p2
  have q1 : (r.ca == 1) = false := beq_eq_false_iff_ne.2 (by omega)
  have q2 : (r.ca == 2) = true := beq_iff_eq.2 hca
  clear hd hca
  obtain ⟨o, ho⟩ : ∃ o, ownI P k = o := ⟨_, rfl⟩
  have HO := Lib.hid ho
  rw [ho] at hl
  clear ho
  have hm : m < 2 * P := by omega
  obtain ⟨b3, off, z, z', rfl, hb, HZ, HZ', hc, hc'⟩ := s1.two hk hm
  rw [HZ.out, HZ'.out] at hl
  clear s1
  obtain ⟨i0, ti, tz0, tz1, tz2⟩ := info_parts info_int64t
  have HL := Lib.hid hl
  clear hl
  cases p1' : (o == pl)
  case false =>
    obtain rfl : l = [] := by rw [← HL.out, if_neg (fun h => absurd h.1 (beq_eq_false_iff_ne.1 p1'))]
    go_enter Try.func45, Try.ntmps45
    go_wp2_with (go_at_call 46; (with_reducible refine Calls.mono (l02Owner_lit r P k b of o _ ?_ HP.out h2 h8 hk HO.out) ?_); (exact HR.out.later (by (repeat' (first | (with_reducible exact Below.refl _ _) | (with_reducible assumption) | (with_reducible refine Below.alloc ?_ ?_ _) | (with_reducible refine Below.drew ?_) | (with_reducible refine belowDrewN ?_ _) | (with_reducible refine Below.setCell ?_ ?_ _) | (with_reducible refine Below.via (by with_reducible assumption) ?_ ?_) | (with_reducible refine Below.viaD (by with_reducible assumption) ?_ ?_) | (with_reducible exact Below.size (by with_reducible assumption)) | go_size | (with_reducible refine Nat.le_trans ?_ (Below.size (by with_reducible assumption))) | (with_reducible refine Nat.le_trans ?_ (sizeAlloc _ _)) | (with_reducible refine Nat.le_trans ?_ (sizeSet _ _ _)) | (with_reducible refine Nat.le_trans ?_ (sizeDrew _)))))); rintro e w_ ⟨rfl, rfl⟩)
    first | (refine wp_region_quiet_lit (by kernel_rfl) (by kernel_rfl) ?_; refine WQ.of ?_; (repeat (refine WQ.step (fun K hK => ?_); go_simp; first | (refine hK _ ?_; clear hK K) | (apply Exists.intro; refine ⟨fun _ => ?_, hK _ ?_⟩; ((go_at_call 64; (with_reducible exact quiet_l (l02Opposite_lit r P k m b of _ ((HR.out.later (boxed_ _ _)).drewN _) HP.out h2 h8 hkm)))); clear hK K))); refine WQ.nil ?_; intro _ hw'; obtain ⟨nq, hw''⟩ := hw'; subst hw'') | go_quiet ((go_at_call 64; (with_reducible exact quiet_l (l02Opposite_lit r P k m b of _ ((HR.out.later (boxed_ _ _)).drewN _) HP.out h2 h8 hkm))))
    go_wp2_with fail
    go_ret
    exact ⟨_, w.heap.size, 0, rfl, by omega, Nat.le_refl _, Nat.zero_le _, OwnV.none _ _ _ _ _, by (repeat' (first | (with_reducible exact Below.refl _ _) | (with_reducible assumption) | (with_reducible refine Below.alloc ?_ ?_ _) | (with_reducible refine Below.drew ?_) | (with_reducible refine belowDrewN ?_ _) | (with_reducible refine Below.setCell ?_ ?_ _) | (with_reducible refine Below.via (by with_reducible assumption) ?_ ?_) | (with_reducible refine Below.viaD (by with_reducible assumption) ?_ ?_) | (with_reducible exact Below.size (by with_reducible assumption)) | go_size | (with_reducible refine Nat.le_trans ?_ (Below.size (by with_reducible assumption))) | (with_reducible refine Nat.le_trans ?_ (sizeAlloc _ _)) | (with_reducible refine Nat.le_trans ?_ (sizeSet _ _ _)) | (with_reducible refine Nat.le_trans ?_ (sizeDrew _))))⟩
  case true =>
    cases p2' : (z == 1)
    case false =>
      obtain rfl : l = [] := by rw [← HL.out, if_neg (fun h => absurd h.2.1 (beq_eq_false_iff_ne.1 p2'))]
      go_enter Try.func45, Try.ntmps45
      go_wp2_with (go_at_call 46; (with_reducible refine Calls.mono (l02Owner_lit r P k b of o _ ?_ HP.out h2 h8 hk HO.out) ?_); (exact HR.out.later (by (repeat' (first | (with_reducible exact Below.refl _ _) | (with_reducible assumption) | (with_reducible refine Below.alloc ?_ ?_ _) | (with_reducible refine Below.drew ?_) | (with_reducible refine belowDrewN ?_ _) | (with_reducible refine Below.setCell ?_ ?_ _) | (with_reducible refine Below.via (by with_reducible assumption) ?_ ?_) | (with_reducible refine Below.viaD (by with_reducible assumption) ?_ ?_) | (with_reducible exact Below.size (by with_reducible assumption)) | go_size | (with_reducible refine Nat.le_trans ?_ (Below.size (by with_reducible assumption))) | (with_reducible refine Nat.le_trans ?_ (sizeAlloc _ _)) | (with_reducible refine Nat.le_trans ?_ (sizeSet _ _ _)) | (with_reducible refine Nat.le_trans ?_ (sizeDrew _)))))); rintro e w_ ⟨rfl, rfl⟩)
      first | (refine wp_region_quiet_lit (by kernel_rfl) (by kernel_rfl) ?_; refine WQ.of ?_; (repeat (refine WQ.step (fun K hK => ?_); go_simp; first | (refine hK _ ?_; clear hK K) | (apply Exists.intro; refine ⟨fun _ => ?_, hK _ ?_⟩; ((go_at_call 64; (with_reducible exact quiet_l (l02Opposite_lit r P k m b of _ ((HR.out.later (boxed_ _ _)).drewN _) HP.out h2 h8 hkm)))); clear hK K))); refine WQ.nil ?_; intro _ hw'; obtain ⟨nq, hw''⟩ := hw'; subst hw'') | go_quiet ((go_at_call 64; (with_reducible exact quiet_l (l02Opposite_lit r P k m b of _ ((HR.out.later (boxed_ _ _)).drewN _) HP.out h2 h8 hkm))))
      go_wp2_with fail
      go_ret
      exact ⟨_, w.heap.size, 0, rfl, by omega, Nat.le_refl _, Nat.zero_le _, OwnV.none _ _ _ _ _, by (repeat' (first | (with_reducible exact Below.refl _ _) | (with_reducible assumption) | (with_reducible refine Below.alloc ?_ ?_ _) | (with_reducible refine Below.drew ?_) | (with_reducible refine belowDrewN ?_ _) | (with_reducible refine Below.setCell ?_ ?_ _) | (with_reducible refine Below.via (by with_reducible assumption) ?_ ?_) | (with_reducible refine Below.viaD (by with_reducible assumption) ?_ ?_) | (with_reducible exact Below.size (by with_reducible assumption)) | go_size | (with_reducible refine Nat.le_trans ?_ (Below.size (by with_reducible assumption))) | (with_reducible refine Nat.le_trans ?_ (sizeAlloc _ _)) | (with_reducible refine Nat.le_trans ?_ (sizeSet _ _ _)) | (with_reducible refine Nat.le_trans ?_ (sizeDrew _))))⟩
    case true =>
      by_cases p3' : 0 < z'
      case neg =>
        obtain rfl : l = [] := by rw [← HL.out, if_neg (fun h => absurd h.2.2 p3')]
        go_enter Try.func45, Try.ntmps45
        go_wp2_with (go_at_call 46; (with_reducible refine Calls.mono (l02Owner_lit r P k b of o _ ?_ HP.out h2 h8 hk HO.out) ?_); (exact HR.out.later (by (repeat' (first | (with_reducible exact Below.refl _ _) | (with_reducible assumption) | (with_reducible refine Below.alloc ?_ ?_ _) | (with_reducible refine Below.drew ?_) | (with_reducible refine belowDrewN ?_ _) | (with_reducible refine Below.setCell ?_ ?_ _) | (with_reducible refine Below.via (by with_reducible assumption) ?_ ?_) | (with_reducible refine Below.viaD (by with_reducible assumption) ?_ ?_) | (with_reducible exact Below.size (by with_reducible assumption)) | go_size | (with_reducible refine Nat.le_trans ?_ (Below.size (by with_reducible assumption))) | (with_reducible refine Nat.le_trans ?_ (sizeAlloc _ _)) | (with_reducible refine Nat.le_trans ?_ (sizeSet _ _ _)) | (with_reducible refine Nat.le_trans ?_ (sizeDrew _)))))); rintro e w_ ⟨rfl, rfl⟩)
        first | (refine wp_region_quiet_lit (by kernel_rfl) (by kernel_rfl) ?_; refine WQ.of ?_; (repeat (refine WQ.step (fun K hK => ?_); go_simp; first | (refine hK _ ?_; clear hK K) | (apply Exists.intro; refine ⟨fun _ => ?_, hK _ ?_⟩; ((go_at_call 64; (with_reducible exact quiet_l (l02Opposite_lit r P k m b of _ ((HR.out.later (boxed_ _ _)).drewN _) HP.out h2 h8 hkm)))); clear hK K))); refine WQ.nil ?_; intro _ hw'; obtain ⟨nq, hw''⟩ := hw'; subst hw'') | go_quiet ((go_at_call 64; (with_reducible exact quiet_l (l02Opposite_lit r P k m b of _ ((HR.out.later (boxed_ _ _)).drewN _) HP.out h2 h8 hkm))))
        go_wp2_with fail
        go_ret
        exact ⟨_, w.heap.size, 0, rfl, by omega, Nat.le_refl _, Nat.zero_le _, OwnV.none _ _ _ _ _, by (repeat' (first | (with_reducible exact Below.refl _ _) | (with_reducible assumption) | (with_reducible refine Below.alloc ?_ ?_ _) | (with_reducible refine Below.drew ?_) | (with_reducible refine belowDrewN ?_ _) | (with_reducible refine Below.setCell ?_ ?_ _) | (with_reducible refine Below.via (by with_reducible assumption) ?_ ?_) | (with_reducible refine Below.viaD (by with_reducible assumption) ?_ ?_) | (with_reducible exact Below.size (by with_reducible assumption)) | go_size | (with_reducible refine Nat.le_trans ?_ (Below.size (by with_reducible assumption))) | (with_reducible refine Nat.le_trans ?_ (sizeAlloc _ _)) | (with_reducible refine Nat.le_trans ?_ (sizeSet _ _ _)) | (with_reducible refine Nat.le_trans ?_ (sizeDrew _))))⟩
      case pos =>
        obtain rfl : l = [(k : Int), (m : Int)] := by rw [← HL.out, if_pos ⟨beq_iff_eq.1 p1', beq_iff_eq.1 p2', p3'⟩]
        go_enter Try.func45, Try.ntmps45
        go_wp2_with (go_at_call 46; (with_reducible refine Calls.mono (l02Owner_lit r P k b of o _ ?_ HP.out h2 h8 hk HO.out) ?_); (exact HR.out.later (by (repeat' (first | (with_reducible exact Below.refl _ _) | (with_reducible assumption) | (with_reducible refine Below.alloc ?_ ?_ _) | (with_reducible refine Below.drew ?_) | (with_reducible refine belowDrewN ?_ _) | (with_reducible refine Below.setCell ?_ ?_ _) | (with_reducible refine Below.via (by with_reducible assumption) ?_ ?_) | (with_reducible refine Below.viaD (by with_reducible assumption) ?_ ?_) | (with_reducible exact Below.size (by with_reducible assumption)) | go_size | (with_reducible refine Nat.le_trans ?_ (Below.size (by with_reducible assumption))) | (with_reducible refine Nat.le_trans ?_ (sizeAlloc _ _)) | (with_reducible refine Nat.le_trans ?_ (sizeSet _ _ _)) | (with_reducible refine Nat.le_trans ?_ (sizeDrew _)))))); rintro e w_ ⟨rfl, rfl⟩)
        first | (refine wp_region_quiet_lit (by kernel_rfl) (by kernel_rfl) ?_; refine WQ.of ?_; (repeat (refine WQ.step (fun K hK => ?_); go_simp; first | (refine hK _ ?_; clear hK K) | (apply Exists.intro; refine ⟨fun _ => ?_, hK _ ?_⟩; ((go_at_call 64; (with_reducible exact quiet_l (l02Opposite_lit r P k m b of _ ((HR.out.later (boxed_ _ _)).drewN _) HP.out h2 h8 hkm)))); clear hK K))); refine WQ.nil ?_; intro _ hw'; obtain ⟨nq, hw''⟩ := hw'; subst hw'') | go_quiet ((go_at_call 64; (with_reducible exact quiet_l (l02Opposite_lit r P k m b of _ ((HR.out.later (boxed_ _ _)).drewN _) HP.out h2 h8 hkm))))
        go_wp2_with (first | (go_at_call 64; (with_reducible refine Calls.mono (l02Opposite_lit r P k m b of _ ?_ HP.out h2 h8 hkm) ?_); (exact HR.out.later (by (repeat' (first | (with_reducible exact Below.refl _ _) | (with_reducible assumption) | (with_reducible refine Below.alloc ?_ ?_ _) | (with_reducible refine Below.drew ?_) | (with_reducible refine belowDrewN ?_ _) | (with_reducible refine Below.setCell ?_ ?_ _) | (with_reducible refine Below.via (by with_reducible assumption) ?_ ?_) | (with_reducible refine Below.viaD (by with_reducible assumption) ?_ ?_) | (with_reducible exact Below.size (by with_reducible assumption)) | go_size | (with_reducible refine Nat.le_trans ?_ (Below.size (by with_reducible assumption))) | (with_reducible refine Nat.le_trans ?_ (sizeAlloc _ _)) | (with_reducible refine Nat.le_trans ?_ (sizeSet _ _ _)) | (with_reducible refine Nat.le_trans ?_ (sizeDrew _)))))); rintro e w_ ⟨rfl, rfl⟩) | (at_builtin; refine wpList_append_sl _ rfl _ _ 24 rfl w.heap.size 2 i0 _ 1 8 Try.underlying24 ti tz0 tz1 tz2 rfl (by decide) _ 0 [] rfl ((row_drewN (row_made0 rfl (Nat.le_refl _)) _).alloc _) (w.heap.size + 2) _ 2 2 [.int .i64 k, .int .i64 m] rfl (Sl.built (by simp) (by simp) rfl) ?c1 ?c2 ?c3 ?c4 ?_))
        case c1 => intro u hu; simp at hu; rcases hu with rfl | rfl <;> rfl
        case c2 => unfold maxLen; omega
        case c3 => omega
        case c4 => first | (simp; done) | (simp; omega)
        intro v' w1 hown1 hg1 _
        have hbn : Below w.heap.size w w1 := below_app (by (repeat' (first | (with_reducible exact Below.refl _ _) | (with_reducible assumption) | (with_reducible refine Below.alloc ?_ ?_ _) | (with_reducible refine Below.drew ?_) | (with_reducible refine belowDrewN ?_ _) | (with_reducible refine Below.setCell ?_ ?_ _) | (with_reducible refine Below.via (by with_reducible assumption) ?_ ?_) | (with_reducible refine Below.viaD (by with_reducible assumption) ?_ ?_) | (with_reducible exact Below.size (by with_reducible assumption)) | go_size | (with_reducible refine Nat.le_trans ?_ (Below.size (by with_reducible assumption))) | (with_reducible refine Nat.le_trans ?_ (sizeAlloc _ _)) | (with_reducible refine Nat.le_trans ?_ (sizeSet _ _ _)) | (with_reducible refine Nat.le_trans ?_ (sizeDrew _))))) ((row_drewN (row_made0 rfl (Nat.le_refl _)) _).alloc _) hg1 (Nat.le_refl _) (by simp; omega)
        obtain ⟨A', g, cap, rfl, hg, hnc, hcm, ho'⟩ := own_of_row hown1
        have HN := Lib.hid hbn
        clear hown1 hg1 hbn
        go_wp2_with fail
        go_ret
        exact ⟨A', g, cap, rfl, by omega, hnc, hcm, ho', HN.out⟩
theorem raw_any (r : Ru) (P b of b2 o2 : Nat) (pl : Int) (A1 A2 : Option Addr) (n1 c1 n2 c2 : Nat) (d : SownD) (l : List Int) (w : World) (hr : RuAt w b of r) (hs : SownAt w b2 o2 A1 n1 c1 A2 n2 c2 d) (hP : r.p = (P : Int)) (h2 : 2 ≤ P) (h8 : P ≤ 8) (hn : n1 = 2 * P) (hk : d.last < 2 * (P : Int)) (ho : okL d.pits = true) (hl : takenL P pl r.ca d.last d.pits = l) :
    Calls Try.prog 45 #[.pointer (some ⟨b, of, none⟩), .pointer (some ⟨b2, o2, none⟩), .int .i64 pl] w (TkPost l w) := by
  unfold takenL at hl
  by_cases hneg : d.last < 0
  · rw [if_pos hneg] at hl
    subst hl
    exact raw_neg b of b2 o2 pl A1 A2 n1 c1 n2 c2 d w hs hneg
  · rw [if_neg hneg] at hl
    obtain ⟨k, hd⟩ := Int.eq_ofNat_of_zero_le (show 0 ≤ d.last by omega)
    rw [hd, Int.toNat_natCast] at hl
    have hk2 : k < 2 * P := by omega
    have hzl := hs.s1.ints
    have hz := inB_of (List.all_eq_true.1 ho _ (getD_mem 0 (show k < d.pits.length by omega)))
    unfold takenK at hl
    by_cases g1 : r.ca = 1
    · rw [if_pos g1] at hl
      exact raw_1 r P k b of b2 o2 pl A1 A2 n1 c1 n2 c2 d l w hr hs hP h2 h8 hn hd hk2 g1 hl
    · rw [if_neg g1] at hl
      by_cases g2 : r.ca = 2
      · rw [if_pos g2] at hl
        exact raw_2 r P k (2 * P - 1 - k) b of b2 o2 pl A1 A2 n1 c1 n2 c2 d l w hr hs hP h2 h8 hn hd hk2 (by omega) g2 hl
      · rw [if_neg g2] at hl
        by_cases g3 : r.ca = 3
        · rw [if_pos g3] at hl
          exact raw_3 r P k b of b2 o2 pl A1 A2 n1 c1 n2 c2 d l w hr hs hP h2 h8 hn hd hk2 g3 hz.1 hz.2 hl
        · rw [if_neg g3] at hl
          subst hl
          exact raw_0 r P k b of b2 o2 pl A1 A2 n1 c1 n2 c2 d [] w hr hs hP h2 h8 hn hd hk2 g1 g2 g3
end Go.Proofs.Ytdkljnlkfkjdpaa
