/- UnpackList: the law. No conditions. -/
import Derived.Test.YtbaimfmepidjcaaPack11
import Derived.Test.YtbaimfmepidjcaaLists
import Derived.Test.YtbaimfmepidjcaaInt64S
namespace Go.Proofs.Ytbaimfmepidjcaa
set_option linter.unusedSimpArgs false
set_option linter.unusedVariables false
open Go.RowKit Go.WideShapes

def upL (r : Option (List Int)) : List Int := r.getD []
def upC (r : Option (List Int)) : Int := if r.isSome then 0 else 8
def UOwn (L : List Int) (code : Int) (w : World) (e : Ending) (w' : World) : Prop := ∃ (A : Option Addr) (g q cap : Nat), e = .returned (.tuple #[.slice A q cap, .int .i64 code]) ∧ w.heap.size ≤ g ∧ Own w' g 2 1 A q L ∧ Below w.heap.size w w'
theorem UPost.own {r : Option (List Int)} {w w' : World} {e : Ending} (h : UPost r w e w') : UOwn (upL r) (upC r) w e w' := by
  obtain ⟨h1, h2, hb⟩ := h
  cases r with
  | none => exact ⟨none, w.heap.size, 0, 0, h2 rfl, Nat.le_refl _, ⟨rfl, fun h => absurd h (by omega)⟩, hb⟩
  | some l =>
    obtain ⟨v, rfl, ho⟩ := h1 l rfl
    obtain ⟨A, g, cap, rfl, hg, _, _, hov⟩ := own_of_row ho
    exact ⟨A, g, l.length, cap, rfl, hg, hov.own, hb⟩
theorem upL_len {s : List UInt8} : (upL (pickI s)).length ≤ 4000 := by
  cases h : pickI s with
  | none => simp [upL]
  | some l => exact okItems_len (pickI_iff.1 h).1
set_option maxRecDepth 100000 in
set_option maxHeartbeats 4000000 in
theorem ul_walk (s : ByteArray) (w : World) (hm : s.size ≤ 9223372036854775807) : Calls Try.prog 6 #[.string s] w fun e w' => e = .returned (.bool true) ∧ Below w.heap.size w w' := by
  by_cases hbig : 1048576 < s.size
  case pos =>
    go_enter Try.func6, Try.ntmps6
    go_wp2
    go_ret
    exact ⟨rfl, by (repeat' (first | (with_reducible exact Below.refl _ _) | (with_reducible assumption) | (with_reducible refine Below.alloc ?_ ?_ _) | (with_reducible refine Below.drew ?_) | (with_reducible refine belowDrewN ?_ _) | (with_reducible refine Below.setCell ?_ ?_ _) | (with_reducible refine Below.via (by with_reducible assumption) ?_ ?_) | (with_reducible refine Below.viaD (by with_reducible assumption) ?_ ?_) | (with_reducible exact Below.size (by with_reducible assumption)) | go_size | (with_reducible refine Nat.le_trans ?_ (Below.size (by with_reducible assumption))) | (with_reducible refine Nat.le_trans ?_ (sizeAlloc _ _)) | (with_reducible refine Nat.le_trans ?_ (sizeSet _ _ _)) | (with_reducible refine Nat.le_trans ?_ (sizeDrew _))))⟩
  case neg =>
    have hs : s.size ≤ 1048576 := by omega
    obtain ⟨L, hL⟩ : ∃ L, upL (pickI s.data.toList) = L := ⟨_, rfl⟩
    obtain ⟨code, hC⟩ : ∃ c, upC (pickI s.data.toList) = c := ⟨_, rfl⟩
    have hl4 := upL_len (s := s.data.toList)
    rw [hL] at hl4
    have HI : Hid (∀ W, Calls Try.prog 20 #[.string s] W (UOwn L code W)) := fun W => (UnpackList_any s W hs).mono fun e w' h => by
      have h2 := h.own
      rw [hL, hC] at h2
      exact h2
    have HS : Hid (∀ W, Calls Try.prog 21 #[.string s] W (UOwn L code W)) := fun W => (sUnpackList_any s W hs).mono fun e w' h => by
      have h2 := h.own
      rw [← pick_same, hL, hC] at h2
      exact h2
    clear hL hC
    go_enter Try.func6, Try.ntmps6
    go_wp2_with fail
    refine (HS.out _).mono ?_
    rintro e w2 ⟨A0, g0, q0, p0, rfl, hg0, o0, b2⟩
    have hq0 : q0 ≤ 4000 := by have := o0.len; omega
    go_wp2_with fail
    refine (HI.out _).mono ?_
    rintro e w4 ⟨A1, g1, q1, p1, rfl, hg1, o1, b4⟩
    have hq1 : q1 ≤ 4000 := by have := o1.len; omega
    have o4 := o0.later b4
    have hbeq : (L == L) = true := beq_self_eq_true L
    have hce : (code == code) = true := beq_self_eq_true code
    have hcn : (code != code) = false := by rw [bne, hce]; rfl
    go_wp2_with fail
    refine (eqInt64S_any _ _ q1 q0 p1 p0 L L _ o1.sl o4.sl (by omega) (by omega)).mono ?_
    rintro e w5 ⟨rfl, b5⟩
    have hp0 : 0 < q0 → g0 < w2.heap.size := fun h => o0.lt h
    have p1' := o1.later b5
    have p0' := o4.later b5
    have z4 := b4.size
    have z5 := b5.size
    have z2 := b2.size
    have bw5 : Below w.heap.size w w5 := by (repeat' (first | (with_reducible exact Below.refl _ _) | (with_reducible assumption) | (with_reducible refine Below.alloc ?_ ?_ _) | (with_reducible refine Below.drew ?_) | (with_reducible refine belowDrewN ?_ _) | (with_reducible refine Below.setCell ?_ ?_ _) | (with_reducible refine Below.via (by with_reducible assumption) ?_ ?_) | (with_reducible refine Below.viaD (by with_reducible assumption) ?_ ?_) | (with_reducible exact Below.size (by with_reducible assumption)) | go_size | (with_reducible refine Nat.le_trans ?_ (Below.size (by with_reducible assumption))) | (with_reducible refine Nat.le_trans ?_ (sizeAlloc _ _)) | (with_reducible refine Nat.le_trans ?_ (sizeSet _ _ _)) | (with_reducible refine Nat.le_trans ?_ (sizeDrew _))))
    clear o4 o1 o0
    go_wp2_with fail
    refine (markInt64S_any _ q1 p1 _ L 1 _ p1' (by omega) (by omega) (by omega)).mono ?_
    rintro e w10 ⟨rfl, r10, hgr10⟩
    have bw10 : Below w.heap.size w w10 := grown_below bw5 hgr10 (by omega) bw5.size
    have p10 := p0'.apart hgr10 (fun hn => by have := hp0 hn; omega)
    clear hgr10 p0' p1'
    go_wp2_with fail
    refine (heldInt64S_any _ q1 p1 1 _ r10.sl (by omega) (by omega) (by omega)).mono ?_
    rintro e w11 ⟨rfl, rfl⟩
    go_wp2_with fail
    refine (HI.out _).mono ?_
    rintro e w13 ⟨A2, g2, q2, p2, rfl, hg2, o2, b13⟩
    have hq2 : q2 ≤ 4000 := by have := o2.len; omega
    go_wp2_with fail
    refine (eqInt64S_any _ _ q2 q0 p2 p0 L L _ o2.sl (p10.later b13).sl (by omega) (by omega)).mono ?_
    rintro e w14 ⟨rfl, b14⟩
    go_wp2_with fail
    refine (heldInt64S_any _ q1 p1 1 _ ((r10.later b13).later b14).sl (by omega) (by omega) (by omega)).mono ?_
    rintro e w15 ⟨rfl, rfl⟩
    go_wp2_with fail
    go_ret
    exact ⟨rfl, by (repeat' (first | (with_reducible exact Below.refl _ _) | (with_reducible assumption) | (with_reducible refine Below.alloc ?_ ?_ _) | (with_reducible refine Below.drew ?_) | (with_reducible refine belowDrewN ?_ _) | (with_reducible refine Below.setCell ?_ ?_ _) | (with_reducible refine Below.via (by with_reducible assumption) ?_ ?_) | (with_reducible refine Below.viaD (by with_reducible assumption) ?_ ?_) | (with_reducible exact Below.size (by with_reducible assumption)) | go_size | (with_reducible refine Nat.le_trans ?_ (Below.size (by with_reducible assumption))) | (with_reducible refine Nat.le_trans ?_ (sizeAlloc _ _)) | (with_reducible refine Nat.le_trans ?_ (sizeSet _ _ _)) | (with_reducible refine Nat.le_trans ?_ (sizeDrew _))))⟩
end Go.Proofs.Ytbaimfmepidjcaa
