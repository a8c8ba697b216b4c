/- DropPlayer: both functions. No conditions beyond lengths. -/
import Derived.Test.YtlogcbiebpfmlaaDirect
import Derived.Test.YtlogcbiebpfmlaaMatchM
namespace Go.Proofs.Ytlogcbiebpfmlaa
set_option linter.unusedSimpArgs false
set_option linter.unusedVariables false
open Go.RowKit

def cellsM (m : Int × Int × Int × Bool) : List Value := [.int .i64 m.1, .int .i64 m.2.1, .int .i64 m.2.2.1, .bool m.2.2.2]
def flatM : List (Int × Int × Int × Bool) → List Value
  | [] => []
  | m :: ms => cellsM m ++ flatM ms
theorem flatM_snoc (ms : List (Int × Int × Int × Bool)) (m : Int × Int × Int × Bool) : flatM (ms ++ [m]) = flatM ms ++ cellsM m := by
  induction ms with
  | nil => simp [flatM]
  | cons x xs ih => rw [List.cons_append, flatM, ih, flatM, List.append_assoc]
theorem flatM_len (ms : List (Int × Int × Int × Bool)) : (flatM ms).length = ms.length * 4 := by
  induction ms with
  | nil => rfl
  | cons x xs ih => rw [flatM, List.length_append, ih, List.length_cons, Nat.succ_mul, Nat.add_comm]; rfl
theorem flatM_typ (ms : List (Int × Int × Int × Bool)) : TypMatch (flatM ms) ms.length := by
  induction ms with
  | nil => intro k hk; exact absurd hk (by simp)
  | cons x xs ih =>
    intro k hk
    rcases k with _ | k
    · exact ⟨x.1, x.2.1, x.2.2.1, x.2.2.2, rfl, rfl, rfl, rfl⟩
    · obtain ⟨a0, a1, a2, a3, v0, v1, v2, v3⟩ := ih k (by simpa using hk)
      have e : ∀ j, (flatM (x :: xs))[(k + 1) * 4 + j]? = (flatM xs)[k * 4 + j]? := by
        intro j
        rw [flatM, List.getElem?_append_right (by simp [cellsM]; omega)]
        congr 1
        simp [cellsM]
        omega
      exact ⟨a0, a1, a2, a3, (e 0).trans v0, (e 1).trans v1, (e 2).trans v2, (e 3).trans v3⟩
/-- The first k matches without those of a player. -/
def dropM (vs : List Value) (p : Int) : Nat → List (Int × Int × Int × Bool)
  | 0 => []
  | k + 1 => dropM vs p k ++ (if intAt vs (k * 4) != p && intAt vs (k * 4 + 1) != p then [(intAt vs (k * 4), intAt vs (k * 4 + 1), intAt vs (k * 4 + 2), boolAt vs (k * 4 + 3))] else [])
theorem dropM_len (vs : List Value) (p : Int) (k : Nat) : (dropM vs p k).length ≤ k := by
  induction k with
  | zero => simp [dropM]
  | succ k ih =>
    rw [dropM, List.length_append]
    split <;> simp <;> omega
/-- What DropPlayer returns: the matches, the code. -/
def drR (n p : Int) (vs : List Value) (c : Nat) : List (Int × Int × Int × Bool) × Int :=
  if validMs n vs then (if inB p 0 (n - 1) then (dropM vs p c, 0) else ([], 2)) else ([], 1)
def DrPost (P : Program) (ms : List (Int × Int × Int × Bool)) (code : Int) (w : World) (e : Ending) (w' : World) : Prop :=
  ∃ (A : Option Addr) (g cap : Nat), e = .returned (.tuple #[.slice A ms.length cap, .int .i64 code]) ∧ w.heap.size ≤ g ∧ OwnV w' g 38 4 A ms.length (flatM ms) ∧ Below w.heap.size w w'
theorem pairL {α : Type} {x x' : α} {z z' : Int} (h : (x', z') = (x, z)) : x' = x ∧ z' = z := by
  injection h with h1 h2
  exact ⟨h1, h2⟩
theorem info_Match' : (Try.prog.info? 38).map (fun i => (i.zero, i.size, i.bytes)) = some (some (.agg #[Value.int .i64 0, .int .i64 0, .int .i64 0, .bool false]), 4, 32) := by kernel_rfl
set_option maxRecDepth 100000 in
set_option maxHeartbeats 2000000 in
theorem DropPlayer_any (n p : Int) (A : Option Addr) (c cp : Nat) (vs : List Value) (w : World) (hs : Sl w w.heap.size 4 A c vs) (ht : TypMatch vs c) (hc : c ≤ 9223372036854775807) (ms : List (Int × Int × Int × Bool)) (code : Int) (hr : drR n p vs c = (ms, code)) :
    Calls Try.prog 11 #[.int .i64 n, .slice A c cp, .int .i64 p] w (DrPost Try.prog ms code w) := by
  have HL := Lib.hid hs.len
  have HT := Lib.hid ht
  unfold drR at hr
  cases hv : validMs n vs
  case false =>
    rw [hv] at hr
    obtain ⟨rfl, rfl⟩ := pairL hr
    clear hr
    go_enter Try.func11, Try.ntmps11
    go_wp2_with (go_at_call 15; refine (ValidMatches_any n A c cp vs _ hs HT.out hc).mono ?_; rintro e w1 ⟨rfl, hb1⟩; obtain ⟨hc1, hf1, hl1, hz1⟩ := bfacts hb1; (try simp only [World.size_alloc, World.size_setCell, World.size_drew] at hz1))
    go_ret2
    exact ⟨none, w.heap.size, 0, rfl, Nat.le_refl _, OwnV.none _ _ _ _ _, by (repeat' (first | (with_reducible exact Below.refl _ _) | (with_reducible assumption) | (with_reducible refine Below.alloc ?_ ?_ _) | (with_reducible refine Below.drew ?_) | (with_reducible refine belowDrewN ?_ _) | (with_reducible refine Below.setCell ?_ ?_ _) | (with_reducible refine Below.via (by with_reducible assumption) ?_ ?_) | (with_reducible refine Below.viaD (by with_reducible assumption) ?_ ?_) | (with_reducible exact Below.size (by with_reducible assumption)) | go_size | (with_reducible refine Nat.le_trans ?_ (Below.size (by with_reducible assumption))) | (with_reducible refine Nat.le_trans ?_ (sizeAlloc _ _)) | (with_reducible refine Nat.le_trans ?_ (sizeSet _ _ _)) | (with_reducible refine Nat.le_trans ?_ (sizeDrew _))))⟩
  case true =>
    rw [hv, if_pos rfl] at hr
    obtain ⟨m, rfl, k1, k2, hc150, hz⟩ := validMs_of HL.out hv
    clear hz ht
    cases q1 : inB p 0 ((m : Int) - 1)
    case false =>
      rw [q1] at hr
      obtain ⟨rfl, rfl⟩ := pairL hr
      clear hr
      go_enter Try.func11, Try.ntmps11
      go_wp2_with (first | (go_at_call 15; refine (ValidMatches_any m A c cp vs _ hs HT.out hc).mono ?_; rintro e w1 ⟨rfl, hb1⟩; obtain ⟨hc1, hf1, hl1, hz1⟩ := bfacts hb1; (try simp only [World.size_alloc, World.size_setCell, World.size_drew] at hz1)) | (go_at_call 16; refine (between_any _ _ _ _).mono ?_; rintro e w_ ⟨rfl, rfl⟩))
      go_ret2
      exact ⟨none, w.heap.size, 0, rfl, Nat.le_refl _, OwnV.none _ _ _ _ _, by (repeat' (first | (with_reducible exact Below.refl _ _) | (with_reducible assumption) | (with_reducible refine Below.alloc ?_ ?_ _) | (with_reducible refine Below.drew ?_) | (with_reducible refine belowDrewN ?_ _) | (with_reducible refine Below.setCell ?_ ?_ _) | (with_reducible refine Below.via (by with_reducible assumption) ?_ ?_) | (with_reducible refine Below.viaD (by with_reducible assumption) ?_ ?_) | (with_reducible exact Below.size (by with_reducible assumption)) | go_size | (with_reducible refine Nat.le_trans ?_ (Below.size (by with_reducible assumption))) | (with_reducible refine Nat.le_trans ?_ (sizeAlloc _ _)) | (with_reducible refine Nat.le_trans ?_ (sizeSet _ _ _)) | (with_reducible refine Nat.le_trans ?_ (sizeDrew _))))⟩
    case true =>
      rw [q1, if_pos rfl] at hr
      obtain ⟨hr1, rfl⟩ := pairL hr
      have HR := Lib.hid hr1
      clear hr hr1
      obtain ⟨i0, ti, tz0, tz1, tz2⟩ := info_parts info_Match'
      go_enter Try.func11, Try.ntmps11
      go_wp2_with (first | (go_at_call 15; refine (ValidMatches_any m A c cp vs _ hs HT.out hc).mono ?_; rintro e w1 ⟨rfl, hb1⟩; obtain ⟨hc1, hf1, hl1, hz1⟩ := bfacts hb1; (try simp only [World.size_alloc, World.size_setCell, World.size_drew] at hz1)) | (go_at_call 16; refine (between_any _ _ _ _).mono ?_; rintro e w_ ⟨rfl, rfl⟩))
      go_loopw [8, 23] (fun v i wr => ∃ k : Nat, k ≤ c ∧ i = .int .i64 k ∧ wr.ownsRow w.heap.size 38 4 v (dropM vs p k).length (flatM (dropM vs p k)) ∧ Below w.heap.size w wr) (fun _ i _ => c - (intOf i).toNat)
      case atStart => exact ⟨0, Nat.zero_le _, rfl, World.ownsRow_made _ _ 0 hb1.size (Nat.zero_le _) rfl, by (repeat' (first | (with_reducible exact Below.refl _ _) | (with_reducible assumption) | (with_reducible refine Below.alloc ?_ ?_ _) | (with_reducible refine Below.drew ?_) | (with_reducible refine belowDrewN ?_ _) | (with_reducible refine Below.setCell ?_ ?_ _) | (with_reducible refine Below.via (by with_reducible assumption) ?_ ?_) | (with_reducible refine Below.viaD (by with_reducible assumption) ?_ ?_) | (with_reducible exact Below.size (by with_reducible assumption)) | go_size | (with_reducible refine Nat.le_trans ?_ (Below.size (by with_reducible assumption))) | (with_reducible refine Nat.le_trans ?_ (sizeAlloc _ _)) | (with_reducible refine Nat.le_trans ?_ (sizeSet _ _ _)) | (with_reducible refine Nat.le_trans ?_ (sizeDrew _))))⟩
      case round =>
        obtain ⟨k, hk, rfl, hown, hbl⟩ := hrel
        by_cases hlt : k < c
        · obtain ⟨blk, off, a0, a1, a2, a3, rfl, hb, hc0, hc1', hc2, hc3, HM⟩ := (hs.below hbl).matchAt HT.out hlt
          have hml := dropM_len vs p k
          have HX : Hid (dropM vs p (k + 1) = dropM vs p k ++ (if a0 != p && a1 != p then [(a0, a1, a2, a3)] else [])) := by unfold Hid; rw [dropM, HM.out.1, HM.out.2.1, HM.out.2.2.1, HM.out.2.2.2]
          revert hown hml HX
          generalize dropM vs p k = l
          intro hown hml HX
          have HO := Lib.hid hown
          have hbs := hbl.size
          clear hown
          cases p1 : (a0 == p) <;> cases p2 : (a1 == p)
          case false.false =>
            have p1' : (a0 != p) = true := by rw [bne, p1]; rfl
            have p2' : (a1 != p) = true := by rw [bne, p2]; rfl
            have HX2 : Hid (dropM vs p (k + 1) = l ++ [(a0, a1, a2, a3)]) := by unfold Hid; rw [HX.out, p1', p2']; rfl
            go_wp2_with (at_builtin; refine wpList_append_sl _ rfl _ _ 24 rfl w.heap.size 38 i0 _ 4 32 Try.underlying24 ti tz0 tz1 tz2 rfl (by decide) _ l.length (flatM l) rfl ((HO.out.alloc _).alloc _) (wr.heap.size + 2) _ 1 1 (cellsM (a0, a1, a2, a3)) rfl (Sl.built (by simp) (by simp) rfl) ?c1 ?c2 ?c3 ?c4 ?_)
            case c1 => intro u hu; simp [cellsM] at hu; rcases hu with rfl | rfl | rfl | rfl <;> rfl
            case c2 => unfold maxLen; omega
            case c3 => omega
            case c4 => simp; omega
            intro v' w1 hown1 hg1 _
            have hbn : Below w.heap.size w w1 := below_app (by (repeat' (first | (with_reducible exact Below.refl _ _) | (with_reducible assumption) | (with_reducible refine Below.alloc ?_ ?_ _) | (with_reducible refine Below.drew ?_) | (with_reducible refine belowDrewN ?_ _) | (with_reducible refine Below.setCell ?_ ?_ _) | (with_reducible refine Below.via (by with_reducible assumption) ?_ ?_) | (with_reducible refine Below.viaD (by with_reducible assumption) ?_ ?_) | (with_reducible exact Below.size (by with_reducible assumption)) | go_size | (with_reducible refine Nat.le_trans ?_ (Below.size (by with_reducible assumption))) | (with_reducible refine Nat.le_trans ?_ (sizeAlloc _ _)) | (with_reducible refine Nat.le_trans ?_ (sizeSet _ _ _)) | (with_reducible refine Nat.le_trans ?_ (sizeDrew _))))) ((HO.out.alloc _).alloc _) hg1 (Nat.le_refl _) (by simp; omega)
            have HO1 := Lib.hid hown1
            clear hown1 hg1
            go_wp2_with fail
            go_roundw
            case rel => exact ⟨k + 1, by omega, by go_num, by rw [HX2.out, flatM_snoc, List.length_append]; exact HO1.out, hbn⟩
            case measure => first | (simp [intOf]; done) | (simp [intOf]; omega)
          all_goals
            have HX2 : Hid (dropM vs p (k + 1) = l) := by unfold Hid; rw [HX.out, bne, bne, p1, p2]; simp
            have p1' : (a0 != p) = !(a0 == p) := rfl
            have p2' : (a1 != p) = !(a1 == p) := rfl
            rw [p1] at p1'
            rw [p2] at p2'
            simp only [Bool.not_true, Bool.not_false] at p1' p2'
            go_wp2_with fail
            go_roundw
            case rel => exact ⟨k + 1, by omega, by go_num, by rw [HX2.out]; exact HO.out.alloc _, by (repeat' (first | (with_reducible exact Below.refl _ _) | (with_reducible assumption) | (with_reducible refine Below.alloc ?_ ?_ _) | (with_reducible refine Below.drew ?_) | (with_reducible refine belowDrewN ?_ _) | (with_reducible refine Below.setCell ?_ ?_ _) | (with_reducible refine Below.via (by with_reducible assumption) ?_ ?_) | (with_reducible refine Below.viaD (by with_reducible assumption) ?_ ?_) | (with_reducible exact Below.size (by with_reducible assumption)) | go_size | (with_reducible refine Nat.le_trans ?_ (Below.size (by with_reducible assumption))) | (with_reducible refine Nat.le_trans ?_ (sizeAlloc _ _)) | (with_reducible refine Nat.le_trans ?_ (sizeSet _ _ _)) | (with_reducible refine Nat.le_trans ?_ (sizeDrew _))))⟩
            case measure => first | (simp [intOf]; done) | (simp [intOf]; omega)
        · obtain rfl : k = c := by omega
          rw [HR.out] at hown
          obtain ⟨A', g, cap, rfl, hg, _, _, ho⟩ := own_of_row hown
          clear hown
          go_wp2_with fail
          go_ret2
          exact ⟨A', g, cap, rfl, hg, ho, by (repeat' (first | (with_reducible exact Below.refl _ _) | (with_reducible assumption) | (with_reducible refine Below.alloc ?_ ?_ _) | (with_reducible refine Below.drew ?_) | (with_reducible refine belowDrewN ?_ _) | (with_reducible refine Below.setCell ?_ ?_ _) | (with_reducible refine Below.via (by with_reducible assumption) ?_ ?_) | (with_reducible refine Below.viaD (by with_reducible assumption) ?_ ?_) | (with_reducible exact Below.size (by with_reducible assumption)) | go_size | (with_reducible refine Nat.le_trans ?_ (Below.size (by with_reducible assumption))) | (with_reducible refine Nat.le_trans ?_ (sizeAlloc _ _)) | (with_reducible refine Nat.le_trans ?_ (sizeSet _ _ _)) | (with_reducible refine Nat.le_trans ?_ (sizeDrew _))))⟩
end Go.Proofs.Ytlogcbiebpfmlaa
