/- Captures: what is taken, by the reference. Conditions: lengths below 2^20. -/
import Derived.Test.YtdkljnlkfkjdpaaCap5
namespace Go.Proofs.Ytdkljnlkfkjdpaa
set_option linter.unusedSimpArgs false
set_option linter.unusedVariables false
open Go.RowKit

set_option maxRecDepth 100000 in
set_option maxHeartbeats 2000000 in
theorem raw_neg (b of b2 o2 : Nat) (pl : Int) (A1 A2 : Option Addr) (n1 c1 n2 c2 : Nat) (d : SownD) (w : World) (hs : SownAt w b2 o2 A1 n1 c1 A2 n2 c2 d) (hl : d.last < 0) :
    Calls Try.prog 45 #[.pointer (some ⟨b, of, none⟩), .pointer (some ⟨b2, o2, none⟩), .int .i64 pl] w (TkPost [] w) := by
  obtain ⟨p0, p1, p2, p3, s1, s2⟩ := hs
  have hlb2 := cell_lt p0
  clear s1 s2
  go_enter Try.func45, Try.ntmps45
  go_wp2_with fail
  go_ret
  exact ⟨_, w.heap.size, 0, rfl, by omega, Nat.le_refl _, Nat.zero_le _, OwnV.none _ _ _ _ _, by (repeat' (first | (with_reducible exact Below.refl _ _) | (with_reducible assumption) | (with_reducible refine Below.alloc ?_ ?_ _) | (with_reducible refine Below.drew ?_) | (with_reducible refine belowDrewN ?_ _) | (with_reducible refine Below.setCell ?_ ?_ _) | (with_reducible refine Below.via (by with_reducible assumption) ?_ ?_) | (with_reducible refine Below.viaD (by with_reducible assumption) ?_ ?_) | (with_reducible exact Below.size (by with_reducible assumption)) | go_size | (with_reducible refine Nat.le_trans ?_ (Below.size (by with_reducible assumption))) | (with_reducible refine Nat.le_trans ?_ (sizeAlloc _ _)) | (with_reducible refine Nat.le_trans ?_ (sizeSet _ _ _)) | (with_reducible refine Nat.le_trans ?_ (sizeDrew _))))⟩
set_option maxRecDepth 100000 in
set_option maxHeartbeats 2000000 in
theorem raw_0 (r : Ru) (P k b of b2 o2 : Nat) (pl : Int) (A1 A2 : Option Addr) (n1 c1 n2 c2 : Nat) (d : SownD) (l : List Int) (w : World) (hr : RuAt w b of r) (hs : SownAt w b2 o2 A1 n1 c1 A2 n2 c2 d) (hP : r.p = (P : Int)) (h2 : 2 ≤ P) (h8 : P ≤ 8) (hn : n1 = 2 * P) (hd : d.last = (k : Int)) (hk : k < 2 * P) (g1 : r.ca ≠ 1) (g2 : r.ca ≠ 2) (g3 : r.ca ≠ 3) :
    Calls Try.prog 45 #[.pointer (some ⟨b, of, none⟩), .pointer (some ⟨b2, o2, none⟩), .int .i64 pl] w (TkPost [] w) := by
  obtain ⟨p0, p1, p2, p3, s1, s2⟩ := hs
  have r7 := hr.c7
  have hlb := cell_lt r7
  have hlb2 := cell_lt p0
  have HR := Lib.hid hr
  have HP := Lib.hid hP
  subst hn
  clear hP hr s2
  rw [hd] at p2
  have q1 : (r.ca == 1) = false := beq_eq_false_iff_ne.2 g1
  have q2 : (r.ca == 2) = false := beq_eq_false_iff_ne.2 g2
  have q3 : (r.ca == 3) = false := beq_eq_false_iff_ne.2 g3
  clear hd g1 g2 g3 s1
  obtain ⟨o, ho⟩ : ∃ o, ownI P k = o := ⟨_, rfl⟩
  have HO := Lib.hid ho
  clear ho
  go_enter Try.func45, Try.ntmps45
  go_wp2_with (go_at_call 46; (with_reducible refine Calls.mono (l02Owner_lit r P k b of o _ ?_ HP.out h2 h8 hk HO.out) ?_); (exact HR.out.later (by (repeat' (first | (with_reducible exact Below.refl _ _) | (with_reducible assumption) | (with_reducible refine Below.alloc ?_ ?_ _) | (with_reducible refine Below.drew ?_) | (with_reducible refine belowDrewN ?_ _) | (with_reducible refine Below.setCell ?_ ?_ _) | (with_reducible refine Below.via (by with_reducible assumption) ?_ ?_) | (with_reducible refine Below.viaD (by with_reducible assumption) ?_ ?_) | (with_reducible exact Below.size (by with_reducible assumption)) | go_size | (with_reducible refine Nat.le_trans ?_ (Below.size (by with_reducible assumption))) | (with_reducible refine Nat.le_trans ?_ (sizeAlloc _ _)) | (with_reducible refine Nat.le_trans ?_ (sizeSet _ _ _)) | (with_reducible refine Nat.le_trans ?_ (sizeDrew _)))))); rintro e w_ ⟨rfl, rfl⟩)
  go_ret
  exact ⟨_, w.heap.size, 0, rfl, by omega, Nat.le_refl _, Nat.zero_le _, OwnV.none _ _ _ _ _, by (repeat' (first | (with_reducible exact Below.refl _ _) | (with_reducible assumption) | (with_reducible refine Below.alloc ?_ ?_ _) | (with_reducible refine Below.drew ?_) | (with_reducible refine belowDrewN ?_ _) | (with_reducible refine Below.setCell ?_ ?_ _) | (with_reducible refine Below.via (by with_reducible assumption) ?_ ?_) | (with_reducible refine Below.viaD (by with_reducible assumption) ?_ ?_) | (with_reducible exact Below.size (by with_reducible assumption)) | go_size | (with_reducible refine Nat.le_trans ?_ (Below.size (by with_reducible assumption))) | (with_reducible refine Nat.le_trans ?_ (sizeAlloc _ _)) | (with_reducible refine Nat.le_trans ?_ (sizeSet _ _ _)) | (with_reducible refine Nat.le_trans ?_ (sizeDrew _))))⟩
set_option maxRecDepth 100000 in
set_option maxHeartbeats 2000000 in
theorem raw_1 (r : Ru) (P k b of b2 o2 : Nat) (pl : Int) (A1 A2 : Option Addr) (n1 c1 n2 c2 : Nat) (d : SownD) (l : List Int) (w : World) (hr : RuAt w b of r) (hs : SownAt w b2 o2 A1 n1 c1 A2 n2 c2 d) (hP : r.p = (P : Int)) (h2 : 2 ≤ P) (h8 : P ≤ 8) (hn : n1 = 2 * P) (hd : d.last = (k : Int)) (hk : k < 2 * P) (hca : r.ca = 1) (hl : runL P pl d.pits (k + 1) = l) :
    Calls Try.prog 45 #[.pointer (some ⟨b, of, none⟩), .pointer (some ⟨b2, o2, none⟩), .int .i64 pl] w (TkPost l w) := by
  obtain ⟨p0, p1, p2, p3, s1, s2⟩ := hs
  have r7 := hr.c7
  have hlb := cell_lt r7
  have hlb2 := cell_lt p0
  have HR := Lib.hid hr
  have HP := Lib.hid hP
  subst hn
  clear hP hr s2
  rw [hd] at p2
  have HL := Lib.hid hl
  have HS := Lib.hid s1
  have hca1 : (r.ca == 1) = true := beq_iff_eq.2 hca
  clear hl s1 hca hd
  obtain ⟨o, ho⟩ : ∃ o, ownI P k = o := ⟨_, rfl⟩
  have HO := Lib.hid ho
  clear ho
  obtain ⟨i0, ti, tz0, tz1, tz2⟩ := info_parts info_int64t
  have HP0 := Lib.hid p0
  go_enter Try.func45, Try.ntmps45
  go_wp2_with (go_at_call 46; (with_reducible refine Calls.mono (l02Owner_lit r P k b of o _ ?_ HP.out h2 h8 hk HO.out) ?_); (exact HR.out.later (by (repeat' (first | (with_reducible exact Below.refl _ _) | (with_reducible assumption) | (with_reducible refine Below.alloc ?_ ?_ _) | (with_reducible refine Below.drew ?_) | (with_reducible refine belowDrewN ?_ _) | (with_reducible refine Below.setCell ?_ ?_ _) | (with_reducible refine Below.via (by with_reducible assumption) ?_ ?_) | (with_reducible refine Below.viaD (by with_reducible assumption) ?_ ?_) | (with_reducible exact Below.size (by with_reducible assumption)) | go_size | (with_reducible refine Nat.le_trans ?_ (Below.size (by with_reducible assumption))) | (with_reducible refine Nat.le_trans ?_ (sizeAlloc _ _)) | (with_reducible refine Nat.le_trans ?_ (sizeSet _ _ _)) | (with_reducible refine Nat.le_trans ?_ (sizeDrew _)))))); rintro e w_ ⟨rfl, rfl⟩)
  go_loopw [7, 8] (fun v i wr => ∃ (j : Nat) (acc : List Int), j ≤ k + 1 ∧ i = .int .i64 ((j : Int) - 1) ∧ wr.ownsRow w.heap.size 2 1 v acc.length (acc.map (Value.int .i64)) ∧ Hid (acc ++ runL P pl d.pits j = l) ∧ acc.length + j ≤ 2 * P ∧ Below w.heap.size w wr) (fun _ i _ => (intOf i + 1).toNat)
  case atStart =>
    refine ⟨k + 1, [], Nat.le_refl _, by rw [show ((k + 1 : Nat) : Int) - 1 = k from by omega], row_made0 rfl (Nat.le_refl _), HL, by simp only [List.length_nil]; omega, by (repeat' (first | (with_reducible exact Below.refl _ _) | (with_reducible assumption) | (with_reducible refine Below.alloc ?_ ?_ _) | (with_reducible refine Below.drew ?_) | (with_reducible refine belowDrewN ?_ _) | (with_reducible refine Below.setCell ?_ ?_ _) | (with_reducible refine Below.via (by with_reducible assumption) ?_ ?_) | (with_reducible refine Below.viaD (by with_reducible assumption) ?_ ?_) | (with_reducible exact Below.size (by with_reducible assumption)) | go_size | (with_reducible refine Nat.le_trans ?_ (Below.size (by with_reducible assumption))) | (with_reducible refine Nat.le_trans ?_ (sizeAlloc _ _)) | (with_reducible refine Nat.le_trans ?_ (sizeSet _ _ _)) | (with_reducible refine Nat.le_trans ?_ (sizeDrew _))))⟩
  case round =>
    obtain ⟨j, acc, hj, rfl, hown, HA, hlen, hbl⟩ := hrel
    have e0 := (hbl.cell (p := ⟨b2, o2, none⟩) hlb2).trans HP0.out
    have HRW := Lib.hid (HR.out.later hbl)
    have HOW := Lib.hid hown
    have HBL := Lib.hid hbl
    have hbs := hbl.size
    clear hown hbl
    rcases j with _ | m
    · have hneg : ¬ (0 : Int) ≤ ((0 : Nat) : Int) - 1 := by omega
      have hA : acc = l := by have := HA.out; rw [runL, List.append_nil] at this; exact this
      subst hA
      obtain ⟨A', g, cap, rfl, hg, hnc, hcm, ho'⟩ := own_of_row HOW.out
      go_wp2_with fail
      go_ret
      exact ⟨A', g, cap, rfl, by omega, hnc, hcm, ho', HBL.out⟩
    · have hm : ((m + 1 : Nat) : Int) - 1 = (m : Int) := by omega
      rw [hm]
      obtain ⟨b3, off, z, e3, hb, HZ, hc⟩ := (HS.out.later HBL.out).int (k := m) (by omega)
      rw [e3] at e0
      obtain ⟨o', ho'⟩ : ∃ o', ownI P m = o' := ⟨_, rfl⟩
      have HO' := Lib.hid ho'
      have HX : Hid (runL P pl d.pits (m + 1) = if o' != pl && inB z 2 3 then (m : Int) :: runL P pl d.pits m else []) := by unfold Hid; rw [runL, ho', HZ.out]
      clear ho' e3
      have hmk : m < 2 * P := by omega
      cases q1 : (o' == pl)
      case true =>
        have q1' : (o' != pl) = false := by rw [bne, q1]; rfl
        have hA : acc = l := by have := HA.out; rw [HX.out, q1'] at this; simpa using this
        subst hA
        obtain ⟨A', g, cap, rfl, hg, hnc, hcm, ho'⟩ := own_of_row HOW.out
        go_wp2_with (go_at_call 46; (with_reducible refine Calls.mono (l02Owner_lit r P m b of o' _ ?_ HP.out h2 h8 hmk HO'.out) ?_); (exact HRW.out.later (by (repeat' (first | (with_reducible exact Below.refl _ _) | (with_reducible assumption) | (with_reducible refine Below.alloc ?_ ?_ _) | (with_reducible refine Below.drew ?_) | (with_reducible refine belowDrewN ?_ _) | (with_reducible refine Below.setCell ?_ ?_ _) | (with_reducible refine Below.via (by with_reducible assumption) ?_ ?_) | (with_reducible refine Below.viaD (by with_reducible assumption) ?_ ?_) | (with_reducible exact Below.size (by with_reducible assumption)) | go_size | (with_reducible refine Nat.le_trans ?_ (Below.size (by with_reducible assumption))) | (with_reducible refine Nat.le_trans ?_ (sizeAlloc _ _)) | (with_reducible refine Nat.le_trans ?_ (sizeSet _ _ _)) | (with_reducible refine Nat.le_trans ?_ (sizeDrew _)))))); rintro e w_ ⟨rfl, rfl⟩)
        go_ret
        exact ⟨A', g, cap, rfl, by omega, hnc, hcm, ho', HBL.out⟩
      case false =>
        have q1' : (o' != pl) = true := by rw [bne, q1]; rfl
        cases q2 : inB z 2 3
        case false =>
          have hA : acc = l := by have := HA.out; rw [HX.out, q1', q2] at this; simpa using this
          subst hA
          obtain ⟨A', g, cap, rfl, hg, hnc, hcm, ho'⟩ := own_of_row HOW.out
          go_wp2_with (first | (go_at_call 46; (with_reducible refine Calls.mono (l02Owner_lit r P m b of o' _ ?_ HP.out h2 h8 hmk HO'.out) ?_); (exact HRW.out.later (by (repeat' (first | (with_reducible exact Below.refl _ _) | (with_reducible assumption) | (with_reducible refine Below.alloc ?_ ?_ _) | (with_reducible refine Below.drew ?_) | (with_reducible refine belowDrewN ?_ _) | (with_reducible refine Below.setCell ?_ ?_ _) | (with_reducible refine Below.via (by with_reducible assumption) ?_ ?_) | (with_reducible refine Below.viaD (by with_reducible assumption) ?_ ?_) | (with_reducible exact Below.size (by with_reducible assumption)) | go_size | (with_reducible refine Nat.le_trans ?_ (Below.size (by with_reducible assumption))) | (with_reducible refine Nat.le_trans ?_ (sizeAlloc _ _)) | (with_reducible refine Nat.le_trans ?_ (sizeSet _ _ _)) | (with_reducible refine Nat.le_trans ?_ (sizeDrew _)))))); rintro e w_ ⟨rfl, rfl⟩) | (go_at_call 44; refine (l00In_any _ _ _ _).mono ?_; rintro e w_ ⟨rfl, rfl⟩))
          go_ret
          exact ⟨A', g, cap, rfl, by omega, hnc, hcm, ho', HBL.out⟩
        case true =>
          have HA2 : Hid ((acc ++ [(m : Int)]) ++ runL P pl d.pits m = l) := by have := HA.out; rw [HX.out, q1', q2] at this; unfold Hid; simpa using this
          go_wp2_with (first | (go_at_call 46; (with_reducible refine Calls.mono (l02Owner_lit r P m b of o' _ ?_ HP.out h2 h8 hmk HO'.out) ?_); (exact HRW.out.later (by (repeat' (first | (with_reducible exact Below.refl _ _) | (with_reducible assumption) | (with_reducible refine Below.alloc ?_ ?_ _) | (with_reducible refine Below.drew ?_) | (with_reducible refine belowDrewN ?_ _) | (with_reducible refine Below.setCell ?_ ?_ _) | (with_reducible refine Below.via (by with_reducible assumption) ?_ ?_) | (with_reducible refine Below.viaD (by with_reducible assumption) ?_ ?_) | (with_reducible exact Below.size (by with_reducible assumption)) | go_size | (with_reducible refine Nat.le_trans ?_ (Below.size (by with_reducible assumption))) | (with_reducible refine Nat.le_trans ?_ (sizeAlloc _ _)) | (with_reducible refine Nat.le_trans ?_ (sizeSet _ _ _)) | (with_reducible refine Nat.le_trans ?_ (sizeDrew _)))))); rintro e w_ ⟨rfl, rfl⟩) | (go_at_call 44; refine (l00In_any _ _ _ _).mono ?_; rintro e w_ ⟨rfl, rfl⟩) | (at_builtin; refine wpList_append_sl _ rfl _ _ 24 rfl w.heap.size 2 i0 _ 1 8 Try.underlying24 ti tz0 tz1 tz2 rfl (by decide) _ acc.length (acc.map (Value.int .i64)) rfl (HOW.out.alloc _) (wr.heap.size + 1) _ 1 1 [.int .i64 m] rfl (Sl.built (by simp) (by simp) rfl) ?c1 ?c2 ?c3 ?c4 ?_))
          case c1 => intro u hu; simp at hu; subst hu; rfl
          case c2 => unfold maxLen; omega
          case c3 => omega
          case c4 => simp; omega
          intro v' w1 hown1 hg1 _
          have hbn : Below w.heap.size w w1 := below_app (by have := HBL.out; (repeat' (first | (with_reducible exact Below.refl _ _) | (with_reducible assumption) | (with_reducible refine Below.alloc ?_ ?_ _) | (with_reducible refine Below.drew ?_) | (with_reducible refine belowDrewN ?_ _) | (with_reducible refine Below.setCell ?_ ?_ _) | (with_reducible refine Below.via (by with_reducible assumption) ?_ ?_) | (with_reducible refine Below.viaD (by with_reducible assumption) ?_ ?_) | (with_reducible exact Below.size (by with_reducible assumption)) | go_size | (with_reducible refine Nat.le_trans ?_ (Below.size (by with_reducible assumption))) | (with_reducible refine Nat.le_trans ?_ (sizeAlloc _ _)) | (with_reducible refine Nat.le_trans ?_ (sizeSet _ _ _)) | (with_reducible refine Nat.le_trans ?_ (sizeDrew _))))) (HOW.out.alloc _) hg1 (Nat.le_refl _) (by simp; omega)
          have HO1 := Lib.hid hown1
          clear hown1 hg1
          go_wp2_with fail
          go_roundw
          case rel => exact ⟨m, acc ++ [(m : Int)], by omega, by go_num, by rw [List.length_append, List.map_append]; exact HO1.out, HA2, by simp; omega, hbn⟩
          case measure => first | (simp [intOf]; done) | (simp [intOf]; omega)
end Go.Proofs.Ytdkljnlkfkjdpaa
