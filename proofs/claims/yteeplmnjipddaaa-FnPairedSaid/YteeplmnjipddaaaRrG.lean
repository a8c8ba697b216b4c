/- Drawn meetings, seldom not valid; draws of RoundOf, FirstsOf. Conditions: at most 2^20 bytes. -/
import Derived.Test.YteeplmnjipddaaaRrE
namespace Go.Proofs.Yteeplmnjipddaaa
set_option linter.unusedSimpArgs false
set_option linter.unusedVariables false
open Go.RowKit Go.WideShapes

theorem own_base {w : World} {base base' : Nat} {e : TypeId} {size : Nat} {v : Value} {n : Nat} {xs : List Value} (h : w.ownsRow base e size v n xs) (hb : base' ≤ base) : w.ownsRow base' e size v n xs := by
  refine ⟨h.1, ?_⟩
  rcases h.2 with h2 | ⟨g, cap, cur, h1, h2, h3⟩
  · exact Or.inl h2
  · exact Or.inr ⟨g, cap, cur, h1, Nat.le_trans hb h2, h3⟩
def vlen : Value → Nat | .slice _ n _ => n | _ => 0
set_option maxRecDepth 4000 in
set_option maxHeartbeats 4000000 in
theorem l24Bent_any (b : Nat) (A : Option Addr) (n c M : Nat) (cs : List Int) (N : Int) (h0 : 0 ≤ N) (h1 : N ≤ 13) (w : World) (h : Src w b A n c M cs) (hn : n ≤ 1048576) (hM : M ≤ 999980000) :
    Calls Try.prog 50 #[.pointer (some ⟨b, 0, none⟩), .int .i64 N] w (MetP 52 b A n c (M + 600) cs 160 w) := by
  obtain ⟨i0, ti, tz0, tz1, tz2⟩ := info_parts info_Meeting'
  have HI := Lib.hid (And.intro ti (And.intro tz0 (And.intro tz1 tz2)))
  clear ti tz0 tz1 tz2
  have hbl := h.lt
  have HAB := Lib.hid h.aBelow
  have HS := Lib.hid h
  clear h
  go_enter Try.func50, Try.ntmps50
  go_wp2_with fail
  refine (l24Draw_any b A n c M cs N h0 h1 _ HS.out hn (by omega)).mono ?_
  rintro e w1 ⟨v, j, zs, rfl, hj, hm⟩
  have HM1 := Lib.hid hm
  clear hm
  go_wp2_with fail
  refine (pick_any b A n c (M + 100) cs 24 _ HM1.out.src hn (by omega) (by omega)).mono ?_
  rintro e w2 ⟨x, rfl, hx0, hx1, -, S2, g2⟩
  have HM2 := Lib.hid (HM1.out.draw hbl S2 g2)
  have hz2 := HM2.out.gr.size
  clear S2 g2 hx1
  by_cases q0 : x = 0
  · subst q0
    go_wp2_with fail
    refine (pick_any b A n c (M + 100 + 2) cs 3 _ HM2.out.src hn (by omega) (by omega)).mono ?_
    rintro e w4 ⟨y, rfl, hy0, hy1, -, S4, g4⟩
    have hy2 := hy1 (by omega)
    have HM4 := Lib.hid ((HM2.out.draw hbl S4 g4).alloc (.cells #[.int .i64 (y - 1), .int .i64 N] 52))
    have hz4 := HM4.out.gr.size
    clear S4 g4 hy1
    go_wp2_with (at_builtin; refine wpList_append_sl _ rfl _ _ 36 rfl w.heap.size 52 i0 _ 2 16 Try.underlying36 HI.out.1 HI.out.2.1 HI.out.2.2.1 HI.out.2.2.2 rfl (by decide) _ j (zs.map (Value.int .i64)) rfl HM4.out.row (w4.heap.size + 1) _ 1 1 [.int .i64 (y - 1), .int .i64 N] rfl (Sl.built (by simp) (by simp) rfl) ?c1 ?c2 ?c3 ?c4 ?_)
    case c1 => intro u hu; simp at hu; rcases hu with rfl | rfl <;> rfl
    case c2 => unfold maxLen; omega
    case c3 => omega
    case c4 => exact hz4
    intro v' w6 hown6 hg6 _
    have HM6 := Lib.hid (HM4.out.app (ys := [y - 1, N]) hbl HAB.out hown6 hg6)
    clear hown6 hg6
    go_wp2_with fail
    go_ret
    exact ⟨v', j + 1, _, rfl, by omega, HM6.out.mono (by omega)⟩
  have hb0 : (x == 0) = false := by rw [beq_eq_false_iff_ne]; exact q0
  clear q0
  by_cases q1 : x = 1
  · subst q1
    clear hb0
    have HM4 := Lib.hid (HM2.out.alloc (.cells #[.int .i64 1, .int .i64 1] 52))
    have hz4 := HM4.out.gr.size
    go_wp2_with (at_builtin; refine wpList_append_sl _ rfl _ _ 36 rfl w.heap.size 52 i0 _ 2 16 Try.underlying36 HI.out.1 HI.out.2.1 HI.out.2.2.1 HI.out.2.2.2 rfl (by decide) _ j (zs.map (Value.int .i64)) rfl HM4.out.row (w2.heap.size + 1) _ 1 1 [.int .i64 1, .int .i64 1] rfl (Sl.built (by simp) (by simp) rfl) ?c1 ?c2 ?c3 ?c4 ?_)
    case c1 => intro u hu; simp at hu; subst hu; rfl
    case c2 => unfold maxLen; omega
    case c3 => omega
    case c4 => exact hz4
    intro v' w6 hown6 hg6 _
    have HM6 := Lib.hid (HM4.out.app (ys := [1, 1]) hbl HAB.out hown6 hg6)
    clear hown6 hg6
    go_wp2_with fail
    go_ret
    exact ⟨v', j + 1, _, rfl, by omega, HM6.out.mono (by omega)⟩
  have hb1 : (x == 1) = false := by rw [beq_eq_false_iff_ne]; exact q1
  clear q1
  by_cases q2 : x = 2
  · subst q2
    clear hb0 hb1
    go_wp2_with fail
    go_loopw [5] (fun v wr => ∃ (k : Nat) (ys : List Int), k ≤ 152 ∧ MR 52 w wr b A n c (M + 102 + 2 * k) cs v k ys) (fun v _ => 152 - vlen v)
    case atStart => exact ⟨j, zs, by omega, HM2.out.mono (by omega)⟩
    case round =>
      obtain ⟨k, ys, hk, hmr⟩ := hrel
      have HM := Lib.hid hmr
      have hgs := hmr.gr.size
      have hrow := hmr.row
      clear hmr
      obtain ⟨A', g, cap, rfl, _, hnc, hcm, _⟩ := own_of_row hrow
      clear hrow
      go_wp2_with fail
      refine (pick_any b A n c (M + 102 + 2 * k) cs 2 _ HM.out.src hn (by omega) (by omega)).mono ?_
      rintro e w4 ⟨y, rfl, hy0, hy1, -, S4, g4⟩
      have hy2 := hy1 (by omega)
      have HM3 := Lib.hid (HM.out.draw hbl S4 g4)
      clear S4 g4 hy1
      by_cases hlt : (k : Int) < 150 + y
      · have hd : decide ((k : Int) < 150 + y) = true := decide_eq_true hlt
        have HM4 := Lib.hid (HM3.out.alloc (.cells #[.int .i64 0, .int .i64 1] 52))
        have hz4 := HM4.out.gr.size
        go_wp2_with (at_builtin; refine wpList_append_sl _ rfl _ _ 36 rfl w.heap.size 52 i0 _ 2 16 Try.underlying36 HI.out.1 HI.out.2.1 HI.out.2.2.1 HI.out.2.2.2 rfl (by decide) _ k (ys.map (Value.int .i64)) rfl HM4.out.row (w4.heap.size + 1) _ 1 1 [.int .i64 0, .int .i64 1] rfl (Sl.built (by simp) (by simp) rfl) ?c1 ?c2 ?c3 ?c4 ?_)
        case c1 => intro u hu; simp at hu; rcases hu with rfl | rfl <;> rfl
        case c2 => unfold maxLen; omega
        case c3 => omega
        case c4 => exact hz4
        intro v' w6 hown6 hg6 _
        have HM6 := Lib.hid (HM4.out.app (ys := [0, 1]) hbl HAB.out hown6 hg6)
        obtain ⟨A6, g6, cap6, rfl, _, _, _, _⟩ := own_of_row hown6
        clear hown6 hg6
        go_wp2_with fail
        go_roundw
        case rel => exact ⟨k + 1, _, by omega, HM6.out.mono (by omega)⟩
        case measure => first | (simp [vlen]; done) | (simp [vlen]; omega)
      · have hd : decide ((k : Int) < 150 + y) = false := decide_eq_false hlt
        go_wp2_with fail
        go_ret
        exact ⟨_, k, ys, rfl, by omega, HM3.out.mono (by omega)⟩
  have hb2 : (x == 2) = false := by rw [beq_eq_false_iff_ne]; exact q2
  clear q2
  go_wp2_with fail
  go_ret
  exact ⟨v, j, zs, rfl, by omega, HM2.out.mono (by omega)⟩
end Go.Proofs.Yteeplmnjipddaaa
