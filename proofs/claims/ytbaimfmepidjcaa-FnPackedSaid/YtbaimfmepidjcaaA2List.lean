/- A drawn list that can be packed. Conditions: at most 2^20 bytes. -/
import Derived.Test.YtbaimfmepidjcaaSrc2
import Derived.Deep.DeepMust
import Derived.Test.YtbaimfmepidjcaaPack8
namespace Go.Proofs.Ytbaimfmepidjcaa
set_option linter.unusedSimpArgs false
set_option linter.unusedVariables false
open Go.RowKit Go.WideShapes

def A2Post (w : World) (e : Ending) (w' : World) : Prop := ∃ (v : Value) (zs : List Int), e = .returned v ∧ w'.ownsRow w.heap.size 2 1 v zs.length (iV zs) ∧ zs.all isItemR = true ∧ zs.length ≤ 64 ∧ Below w.heap.size w w'
set_option maxRecDepth 100000 in
set_option maxHeartbeats 8000000 in
theorem A2List_any (A : Option Addr) (n c : Nat) (cs : List Int) (w : World) (hs : Sl w w.heap.size 1 A n (cs.map (Value.int .u8))) (hc : ∀ z ∈ cs, 0 ≤ z ∧ z ≤ 255) (hn : n ≤ 1048576) : Calls Try.prog 12 #[.slice A n c] w (A2Post w) := by
  obtain ⟨i0, ti, tz0, tz1, tz2⟩ := info_parts info_i64
  have hAb : ∀ b' off, A = some ⟨b', off, none⟩ → 0 < n → b' < w.heap.size := fun b' off e h => by
    obtain ⟨b2, off2, e2, hb2, _⟩ := hs.2 h
    rw [e] at e2
    injection e2 with e2
    injection e2 with e2
    omega
  have HAB := Lib.hid hAb
  have HCC := Lib.hid hc
  clear hAb hc
  go_enter Try.func12, Try.ntmps12
  go_wp2_with fail
  refine (l00From_any A n c cs w hs HCC.out).mono ?_
  rintro e w1 ⟨b, rfl, hb, S1, hb1⟩
  have B1 := hb1.size
  have HS1 : Hid (Src (w1.alloc (.cells #[] 2)) b A n c 0 cs) := S1.later (Below.alloc (Below.refl _ _) (Nat.le_refl _) _)
  have hlb := S1.lt
  clear S1
  go_wp2_with (go_at_call 27; go_must (refine (pick_any b A n c 0 cs 9 _ HS1.out hn (by omega) (by omega)).mono ?_); rintro e w2 ⟨x, rfl, hx0, hx1, -, S2, g2⟩)
  have hx9 := hx1 (by omega)
  obtain ⟨kk, rfl⟩ : ∃ kk : Nat, x = kk := ⟨x.toNat, by omega⟩
  have hbw2 : Below w.heap.size w w2 := below_src (by (repeat' (first | (with_reducible exact Below.refl _ _) | (with_reducible assumption) | (with_reducible refine Below.alloc ?_ ?_ _) | (with_reducible refine Below.drew ?_) | (with_reducible refine belowDrewN ?_ _) | (with_reducible refine Below.setCell ?_ ?_ _) | (with_reducible refine Below.via (by with_reducible assumption) ?_ ?_) | (with_reducible refine Below.viaD (by with_reducible assumption) ?_ ?_) | (with_reducible exact Below.size (by with_reducible assumption)) | go_size | (with_reducible refine Nat.le_trans ?_ (Below.size (by with_reducible assumption))) | (with_reducible refine Nat.le_trans ?_ (sizeAlloc _ _)) | (with_reducible refine Nat.le_trans ?_ (sizeSet _ _ _)) | (with_reducible refine Nat.le_trans ?_ (sizeDrew _))))) g2 hb (by simp; omega)
  have HS2 := Lib.hid S2
  have hz2 := g2.size
  have HG2 := Lib.hid g2
  have HO2 := Lib.hid (World.ownsRow_made (e := 2) (size := 1) w1 #[] 0 B1 (Nat.zero_le _) rfl)
  clear S2 g2 hx1
  go_wp2_with fail
  go_loopw [4, 5] (fun v i wr => ∃ (k M : Nat) (zs : List Int), i = .int .i64 k ∧ k ≤ 8 ∧ M + 100 * k ≤ 1000 ∧ Src wr b A n c M cs ∧ wr.ownsRow w.heap.size 2 1 v zs.length (iV zs) ∧ v.ownBlock ≠ some b ∧ Hid (zs.all isItemR = true) ∧ zs.length + 5 * k ≤ 60 ∧ Below w.heap.size w wr) (fun _ i _ => (intOf i).toNat)
  case atStart =>
    refine ⟨kk, 2, [], rfl, by omega, by omega, HS2.out, own_over HO2.out HG2.out ?_, ?_, rfl, by simp; omega, hbw2⟩
    all_goals
      simp only [Value.ownBlock]
      intro he
      injection he with he
      omega
  case round =>
    obtain ⟨k, M, zs, rfl, hk8, hM, hS, hown, hne, HI, hlen, hbl⟩ := hrel
    have hbs := hbl.size
    have HSo := Lib.hid hS
    have HW := Lib.hid hown
    have HNE := Lib.hid hne
    clear hS hown hne
    by_cases hk : 0 < k
    case neg =>
      obtain rfl : k = 0 := by omega
      go_wp2_with fail
      go_ret
      exact ⟨_, zs, rfl, HW.out, HI.out, by omega, hbl⟩
    case pos =>
      go_wp2_with fail
      refine (pick_any b A n c M cs 21 _ HSo.out hn (by omega) (by omega)).mono ?_
      rintro e w3 ⟨x, rfl, hx0, hx1, -, S3, g3⟩
      have hx21 := hx1 (by omega)
      have HS3 := Lib.hid S3
      have HG3 := Lib.hid g3
      clear S3 g3 hx1
      go_wp2_with fail
      refine (one_any b A n c (M + 2) cs 6 _ HS3.out hn (by omega) (by omega)).mono ?_
      rintro e w4 ⟨q, rfl, S4, g4⟩
      have HS4 := Lib.hid S4
      have HG4 := Lib.hid (grown_two HG3.out g4 HSo.out.lt)
      clear S4 g4
      cases q
      case' false =>
        have HX : Hid (isItemR (x - 10) = true) := by unfold Hid; rw [isItemR, decide_eq_true_eq]; omega
        go_wp2_with fail
        refine (pick_any b A n c (M + 4) cs 4 _ HS4.out hn (by omega) (by omega)).mono ?_
        rintro e w5 ⟨y, rfl, hy0, hy1, -, S5, g5⟩
        have HS5 := Lib.hid (S5.mono (M' := M + 8) (by omega))
        have HG5 := Lib.hid (grown_two HG4.out g5 HSo.out.lt)
        obtain ⟨xx, hxx⟩ : ∃ xx, x - 10 = xx := ⟨_, rfl⟩
      case' true =>
        go_wp2_with fail
        refine (pick_any b A n c (M + 4) cs 2000001 _ HS4.out hn (by omega) (by omega)).mono ?_
        rintro e w4' ⟨x', rfl, hx0', hx1', -, S4', g4'⟩
        have hx21' := hx1' (by omega)
        have HX : Hid (isItemR (x' - 1000000) = true) := by unfold Hid; rw [isItemR, decide_eq_true_eq]; omega
        have HS4' := Lib.hid S4'
        have HG4' := Lib.hid (grown_two HG4.out g4' HSo.out.lt)
        clear S4' g4' hx1'
        go_wp2_with fail
        refine (pick_any b A n c (M + 6) cs 4 _ HS4'.out hn (by omega) (by omega)).mono ?_
        rintro e w5 ⟨y, rfl, hy0, hy1, -, S5, g5⟩
        have HS5 := Lib.hid (S5.mono (M' := M + 8) (by omega))
        have HG5 := Lib.hid (grown_two HG4'.out g5 HSo.out.lt)
        obtain ⟨xx, hxx⟩ : ∃ xx, x' - 1000000 = xx := ⟨_, rfl⟩
      all_goals
        have hy4 := hy1 (by omega)
        have hxb : -1000000 ≤ xx ∧ xx ≤ 1000000 := by omega
        rw [hxx] at HX
        obtain ⟨m, rfl⟩ : ∃ m : Nat, y = m := ⟨y.toNat, by omega⟩
        have hbw5 : Below w.heap.size w w5 := below_src hbl HG5.out hb (by omega)
        have HW5 := Lib.hid (own_over HW.out HG5.out HNE.out)
        have hz5 := HG5.out.size
        clear S5 g5 hy1
        go_wp2_with fail
        clear hxx
        rename World => wo
        go_loopw [4, 7] (fun v i wr => ∃ (j : Nat) (zs2 : List Int), i = .int .i64 j ∧ j ≤ 4 ∧ Src wr b A n c (M + 8) cs ∧ wr.ownsRow w.heap.size 2 1 v zs2.length (iV zs2) ∧ v.ownBlock ≠ some b ∧ Hid (zs2.all isItemR = true) ∧ zs2.length + j ≤ zs.length + 4 ∧ Below w.heap.size w wr) (fun _ i _ => (intOf i).toNat)
        case atStart => exact ⟨m + 1, zs, by first | rfl | go_num | (congr 1; omega), by omega, HS5.out, HW5.out, HNE.out, HI, by omega, hbw5⟩
        case round =>
          obtain ⟨j, zs2, rfl, hj4, hS6, hown6, hne6, HI6, hlen6, hb6⟩ := hrel
          rename World => wi
          have hbs6 := hb6.size
          have HS6 := Lib.hid hS6
          have HW6 := Lib.hid hown6
          have HNE6 := Lib.hid hne6
          clear hS6 hown6 hne6
          by_cases hj : 0 < j
          case pos =>
            have HL : Hid ((zs2 ++ [xx]).all isItemR = true) := by unfold Hid; rw [List.all_append, HI6.out, List.all_cons, HX.out]; rfl
            go_wp2_with (at_builtin; refine wpList_append_sl _ rfl _ _ 22 rfl w.heap.size 2 i0 _ 1 8 Try.underlying22 ti tz0 tz1 tz2 rfl (by decide) _ zs2.length (iV zs2) rfl (HW6.out.alloc _) (wi.heap.size + 1) _ 1 1 [.int .i64 xx] rfl (Sl.built (by simp) (by simp) rfl) ?c1 ?c2 ?c3 ?c4 ?_)
            case c1 => intro u hu; simp at hu; subst hu; rfl
            case c2 => unfold maxLen; omega
            case c3 => omega
            case c4 => simp; omega
            intro v7 w7 hown7 hg7 hbk7
            have hbn : Below w.heap.size w w7 := below_app (by (repeat' (first | (with_reducible exact Below.refl _ _) | (with_reducible assumption) | (with_reducible refine Below.alloc ?_ ?_ _) | (with_reducible refine Below.drew ?_) | (with_reducible refine belowDrewN ?_ _) | (with_reducible refine Below.setCell ?_ ?_ _) | (with_reducible refine Below.via (by with_reducible assumption) ?_ ?_) | (with_reducible refine Below.viaD (by with_reducible assumption) ?_ ?_) | (with_reducible exact Below.size (by with_reducible assumption)) | go_size | (with_reducible refine Nat.le_trans ?_ (Below.size (by with_reducible assumption))) | (with_reducible refine Nat.le_trans ?_ (sizeAlloc _ _)) | (with_reducible refine Nat.le_trans ?_ (sizeSet _ _ _)) | (with_reducible refine Nat.le_trans ?_ (sizeDrew _))))) (HW6.out.alloc _) hg7 (Nat.le_refl _) (by simp; omega)
            have HW7 : Hid (w7.ownsRow w.heap.size 2 1 v7 (zs2 ++ [xx]).length (iV (zs2 ++ [xx]))) := by unfold Hid; rw [iV_app, List.length_append]; exact hown7
            have HNE7 : Hid (v7.ownBlock ≠ some b) := by
              unfold Hid
              rcases hbk7 with h | h
              · rw [h]; exact HNE6.out
              · rw [h]; intro he; injection he with he; have := HS6.out.lt; (try simp at he); omega
            have HS7 : Hid (Src w7 b A n c (M + 8) cs) := (HS6.out.later (Below.alloc (Below.refl _ _) (Nat.le_refl _) _)).over hg7 HNE6.out (fun b' off e h he => by
              have h1 := HAB.out b' off e h
              have h2 := (HW6.out.lt b' he).1
              omega)
            clear hown7 hg7 hbk7
            go_wp2_with fail
            go_roundw
            case rel => exact ⟨j - 1, zs2 ++ [xx], by first | rfl | (congr 1; omega), by omega, HS7.out, HW7.out, HNE7.out, HL, by rw [List.length_append, List.length_singleton]; omega, hbn⟩
            case measure => first | (simp [intOf]; done) | (simp [intOf]; omega)
          case neg =>
            obtain rfl : j = 0 := by omega
            go_wp2_with fail
            go_roundw
            case rel => exact ⟨k - 1, M + 8, zs2, by first | rfl | (congr 1; omega), by omega, by omega, HS6.out, HW6.out, HNE6.out, HI6, by omega, hb6⟩
            case measure => first | (simp [intOf]; done) | (simp [intOf]; omega)
end Go.Proofs.Ytbaimfmepidjcaa
