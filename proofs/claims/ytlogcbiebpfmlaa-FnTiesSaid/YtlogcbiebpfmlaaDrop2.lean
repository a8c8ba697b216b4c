/- DropPlayer: the reference's function, and the law. No conditions beyond lengths. -/
import Derived.Test.YtlogcbiebpfmlaaDrop
namespace Go.Proofs.Ytlogcbiebpfmlaa
set_option linter.unusedSimpArgs false
set_option linter.unusedVariables false
open Go.RowKit

set_option maxRecDepth 100000 in
set_option maxHeartbeats 2000000 in
theorem sDropPlayer_any (n p : Int) (A : Option Addr) (c cp : Nat) (vs : List Value) (w : World) (hs : Sl w w.heap.size 4 A c vs) (ht : TypMatch vs c) (hc : c ≤ 9223372036854775807) (ms : List (Int × Int × Int × Bool)) (code : Int) (hr : drR n p vs c = (ms, code)) :
    Calls Try.prog 12 #[.int .i64 n, .slice A c cp, .int .i64 p] w (DrPost Try.prog ms code w) := by
  have HL := Lib.hid hs.len
  have HT := Lib.hid ht
  unfold drR at hr
  cases hv : validMs n vs
  case false =>
    rw [hv] at hr
    obtain ⟨rfl, rfl⟩ := pairL hr
    clear hr
    go_enter Try.func12, Try.ntmps12
    go_wp2_with (go_at_call 18; refine (l26Ok_any n A c cp vs _ hs HT.out hc).mono ?_; rintro e w1 ⟨rfl, hb1⟩; obtain ⟨hc1, hf1, hl1, hz1⟩ := bfacts hb1; (try simp only [World.size_alloc, World.size_setCell, World.size_drew] at hz1))
    go_ret2
    exact ⟨none, w.heap.size, 0, rfl, Nat.le_refl _, OwnV.none _ _ _ _ _, by (repeat' (first | (with_reducible exact Below.refl _ _) | (with_reducible assumption) | (with_reducible refine Below.alloc ?_ ?_ _) | (with_reducible refine Below.drew ?_) | (with_reducible refine belowDrewN ?_ _) | (with_reducible refine Below.setCell ?_ ?_ _) | (with_reducible refine Below.via (by with_reducible assumption) ?_ ?_) | (with_reducible refine Below.viaD (by with_reducible assumption) ?_ ?_) | (with_reducible exact Below.size (by with_reducible assumption)) | go_size | (with_reducible refine Nat.le_trans ?_ (Below.size (by with_reducible assumption))) | (with_reducible refine Nat.le_trans ?_ (sizeAlloc _ _)) | (with_reducible refine Nat.le_trans ?_ (sizeSet _ _ _)) | (with_reducible refine Nat.le_trans ?_ (sizeDrew _))))⟩
  case true =>
    rw [hv, if_pos rfl] at hr
    obtain ⟨m, rfl, k1, k2, hc150, hz⟩ := validMs_of HL.out hv
    clear hz ht
    cases q1 : inB p 0 ((m : Int) - 1)
    case false =>
      rw [q1] at hr
      obtain ⟨rfl, rfl⟩ := pairL hr
      clear hr
      go_enter Try.func12, Try.ntmps12
      go_wp2_with (first | (go_at_call 18; refine (l26Ok_any m A c cp vs _ hs HT.out hc).mono ?_; rintro e w1 ⟨rfl, hb1⟩; obtain ⟨hc1, hf1, hl1, hz1⟩ := bfacts hb1; (try simp only [World.size_alloc, World.size_setCell, World.size_drew] at hz1)) | (go_at_call 19; refine (l00In_any _ _ _ _).mono ?_; rintro e w_ ⟨rfl, rfl⟩))
      go_ret2
      exact ⟨none, w.heap.size, 0, rfl, Nat.le_refl _, OwnV.none _ _ _ _ _, by (repeat' (first | (with_reducible exact Below.refl _ _) | (with_reducible assumption) | (with_reducible refine Below.alloc ?_ ?_ _) | (with_reducible refine Below.drew ?_) | (with_reducible refine belowDrewN ?_ _) | (with_reducible refine Below.setCell ?_ ?_ _) | (with_reducible refine Below.via (by with_reducible assumption) ?_ ?_) | (with_reducible refine Below.viaD (by with_reducible assumption) ?_ ?_) | (with_reducible exact Below.size (by with_reducible assumption)) | go_size | (with_reducible refine Nat.le_trans ?_ (Below.size (by with_reducible assumption))) | (with_reducible refine Nat.le_trans ?_ (sizeAlloc _ _)) | (with_reducible refine Nat.le_trans ?_ (sizeSet _ _ _)) | (with_reducible refine Nat.le_trans ?_ (sizeDrew _))))⟩
    case true =>
      rw [q1, if_pos rfl] at hr
      obtain ⟨hr1, rfl⟩ := pairL hr
      have HR := Lib.hid hr1
      clear hr hr1
      obtain ⟨i0, ti, tz0, tz1, tz2⟩ := info_parts info_Match'
      go_enter Try.func12, Try.ntmps12
      go_wp2_with (first | (go_at_call 18; refine (l26Ok_any m A c cp vs _ hs HT.out hc).mono ?_; rintro e w1 ⟨rfl, hb1⟩; obtain ⟨hc1, hf1, hl1, hz1⟩ := bfacts hb1; (try simp only [World.size_alloc, World.size_setCell, World.size_drew] at hz1)) | (go_at_call 19; refine (l00In_any _ _ _ _).mono ?_; rintro e w_ ⟨rfl, rfl⟩))
      go_loopw [8, 9] (fun v i wr => ∃ k : Nat, k ≤ c ∧ i = .int .i64 k ∧ wr.ownsRow w.heap.size 38 4 v (dropM vs p k).length (flatM (dropM vs p k)) ∧ Below w.heap.size w wr) (fun _ i _ => c - (intOf i).toNat)
      case atStart => exact ⟨0, Nat.zero_le _, rfl, World.ownsRow_made _ _ 0 hb1.size (Nat.zero_le _) rfl, by (repeat' (first | (with_reducible exact Below.refl _ _) | (with_reducible assumption) | (with_reducible refine Below.alloc ?_ ?_ _) | (with_reducible refine Below.drew ?_) | (with_reducible refine belowDrewN ?_ _) | (with_reducible refine Below.setCell ?_ ?_ _) | (with_reducible refine Below.via (by with_reducible assumption) ?_ ?_) | (with_reducible refine Below.viaD (by with_reducible assumption) ?_ ?_) | (with_reducible exact Below.size (by with_reducible assumption)) | go_size | (with_reducible refine Nat.le_trans ?_ (Below.size (by with_reducible assumption))) | (with_reducible refine Nat.le_trans ?_ (sizeAlloc _ _)) | (with_reducible refine Nat.le_trans ?_ (sizeSet _ _ _)) | (with_reducible refine Nat.le_trans ?_ (sizeDrew _))))⟩
      case round =>
        obtain ⟨k, hk, rfl, hown, hbl⟩ := hrel
        by_cases hlt : k < c
        · obtain ⟨blk, off, a0, a1, a2, a3, rfl, hb, hc0, hc1', hc2, hc3, HM⟩ := (hs.below hbl).matchAt HT.out hlt
          have hml := dropM_len vs p k
          have HX : Hid (dropM vs p (k + 1) = dropM vs p k ++ (if a0 != p && a1 != p then [(a0, a1, a2, a3)] else [])) := by unfold Hid; rw [dropM, HM.out.1, HM.out.2.1, HM.out.2.2.1, HM.out.2.2.2]
          revert hown hml HX
          generalize dropM vs p k = l
          intro hown hml HX
          have HO := Lib.hid hown
          have hbs := hbl.size
          clear hown
          cases p1 : (a0 == p) <;> cases p2 : (a1 == p)
          case false.false =>
            have p1' : (a0 != p) = true := by rw [bne, p1]; rfl
            have p2' : (a1 != p) = true := by rw [bne, p2]; rfl
            have HX2 : Hid (dropM vs p (k + 1) = l ++ [(a0, a1, a2, a3)]) := by unfold Hid; rw [HX.out, p1', p2']; rfl
            go_wp2_with (at_builtin; refine wpList_append_sl _ rfl _ _ 24 rfl w.heap.size 38 i0 _ 4 32 Try.underlying24 ti tz0 tz1 tz2 rfl (by decide) _ l.length (flatM l) rfl (HO.out.alloc _) (wr.heap.size + 1) _ 1 1 (cellsM (a0, a1, a2, a3)) rfl (Sl.built (by simp) (by simp) rfl) ?c1 ?c2 ?c3 ?c4 ?_)
            case c1 => intro u hu; simp [cellsM] at hu; rcases hu with rfl | rfl | rfl | rfl <;> rfl
            case c2 => unfold maxLen; omega
            case c3 => omega
            case c4 => simp; omega
            intro v' w1 hown1 hg1 _
            have hbn : Below w.heap.size w w1 := below_app (by (repeat' (first | (with_reducible exact Below.refl _ _) | (with_reducible assumption) | (with_reducible refine Below.alloc ?_ ?_ _) | (with_reducible refine Below.drew ?_) | (with_reducible refine belowDrewN ?_ _) | (with_reducible refine Below.setCell ?_ ?_ _) | (with_reducible refine Below.via (by with_reducible assumption) ?_ ?_) | (with_reducible refine Below.viaD (by with_reducible assumption) ?_ ?_) | (with_reducible exact Below.size (by with_reducible assumption)) | go_size | (with_reducible refine Nat.le_trans ?_ (Below.size (by with_reducible assumption))) | (with_reducible refine Nat.le_trans ?_ (sizeAlloc _ _)) | (with_reducible refine Nat.le_trans ?_ (sizeSet _ _ _)) | (with_reducible refine Nat.le_trans ?_ (sizeDrew _))))) (HO.out.alloc _) hg1 (Nat.le_refl _) (by simp; omega)
            have HO1 := Lib.hid hown1
            clear hown1 hg1
            go_wp2_with fail
            go_roundw
            case rel => exact ⟨k + 1, by omega, by go_num, by rw [HX2.out, flatM_snoc, List.length_append]; exact HO1.out, hbn⟩
            case measure => first | (simp [intOf]; done) | (simp [intOf]; omega)
          all_goals
            have HX2 : Hid (dropM vs p (k + 1) = l) := by unfold Hid; rw [HX.out, bne, bne, p1, p2]; simp
            have p1' : (a0 != p) = !(a0 == p) := rfl
            have p2' : (a1 != p) = !(a1 == p) := rfl
            rw [p1] at p1'
            rw [p2] at p2'
            simp only [Bool.not_true, Bool.not_false] at p1' p2'
            go_wp2_with fail
            go_roundw
            case rel => exact ⟨k + 1, by omega, by go_num, by rw [HX2.out]; exact HO.out, by (repeat' (first | (with_reducible exact Below.refl _ _) | (with_reducible assumption) | (with_reducible refine Below.alloc ?_ ?_ _) | (with_reducible refine Below.drew ?_) | (with_reducible refine belowDrewN ?_ _) | (with_reducible refine Below.setCell ?_ ?_ _) | (with_reducible refine Below.via (by with_reducible assumption) ?_ ?_) | (with_reducible refine Below.viaD (by with_reducible assumption) ?_ ?_) | (with_reducible exact Below.size (by with_reducible assumption)) | go_size | (with_reducible refine Nat.le_trans ?_ (Below.size (by with_reducible assumption))) | (with_reducible refine Nat.le_trans ?_ (sizeAlloc _ _)) | (with_reducible refine Nat.le_trans ?_ (sizeSet _ _ _)) | (with_reducible refine Nat.le_trans ?_ (sizeDrew _))))⟩
            case measure => first | (simp [intOf]; done) | (simp [intOf]; omega)
        · obtain rfl : k = c := by omega
          rw [HR.out] at hown
          obtain ⟨A', g, cap, rfl, hg, _, _, ho⟩ := own_of_row hown
          clear hown
          go_wp2_with fail
          go_ret2
          exact ⟨A', g, cap, rfl, hg, ho, by (repeat' (first | (with_reducible exact Below.refl _ _) | (with_reducible assumption) | (with_reducible refine Below.alloc ?_ ?_ _) | (with_reducible refine Below.drew ?_) | (with_reducible refine belowDrewN ?_ _) | (with_reducible refine Below.setCell ?_ ?_ _) | (with_reducible refine Below.via (by with_reducible assumption) ?_ ?_) | (with_reducible refine Below.viaD (by with_reducible assumption) ?_ ?_) | (with_reducible exact Below.size (by with_reducible assumption)) | go_size | (with_reducible refine Nat.le_trans ?_ (Below.size (by with_reducible assumption))) | (with_reducible refine Nat.le_trans ?_ (sizeAlloc _ _)) | (with_reducible refine Nat.le_trans ?_ (sizeSet _ _ _)) | (with_reducible refine Nat.le_trans ?_ (sizeDrew _))))⟩
end Go.Proofs.Ytlogcbiebpfmlaa
