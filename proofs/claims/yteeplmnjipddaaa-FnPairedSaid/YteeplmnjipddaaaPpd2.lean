/- FnPaired: the draw. Conditions: at most 2^20 bytes. -/
import Derived.Test.YteeplmnjipddaaaRrG
namespace Go.Proofs.Yteeplmnjipddaaa
set_option linter.unusedSimpArgs false
set_option linter.unusedVariables false
open Go.RowKit Go.WideShapes

/-- A list of points of the call's own beside the source. -/
structure PR (t : TypeId) (w wr : World) (b : Nat) (A : Option Addr) (n c M : Nat) (cs : List Int) (v : Value) (j : Nat) (zs : List Int) : Prop where
  src : Src wr b A n c M cs
  row : wr.ownsRow w.heap.size t 1 v j (zs.map (Value.int .i64))
  gr : w.grownBy wr (some b)
section
variable {t : TypeId} {w wr w' : World} {b : Nat} {A : Option Addr} {n c M M' : Nat} {cs : List Int} {v v' : Value} {j j' : Nat} {zs ys : List Int}
theorem PR.later (h : PR t w wr b A n c M cs v j zs) (hb : Below wr.heap.size wr w') : PR t w w' b A n c M cs v j zs := ⟨h.src.later hb, row_below h.row hb, grown_belE h.gr hb⟩
theorem PR.alloc (h : PR t w wr b A n c M cs v j zs) (o : Obj) : PR t w (wr.alloc o) b A n c M cs v j zs := h.later (Below.alloc (Below.refl _ _) (Nat.le_refl _) o)
theorem PR.draw (h : PR t w wr b A n c M cs v j zs) (hb : b < w.heap.size) (hs : Src w' b A n c M' cs) (hg : wr.grownBy w' (some b)) : PR t w w' b A n c M' cs v j zs :=
  ⟨hs, own_over h.row hg (by intro e; have := (h.row.lt b e).1; omega), grown_tr h.gr hg⟩
theorem PR.app (h : PR t w wr b A n c M cs v j zs) (hb : b < w.heap.size) (hab : ∀ b' off, A = some ⟨b', off, none⟩ → 0 < n → b' < w.heap.size) (hown : w'.ownsRow w.heap.size t 1 v' j' (zs.map (Value.int .i64) ++ ys.map (Value.int .i64))) (hg : wr.grownBy w' v.ownBlock) : PR t w w' b A n c M cs v' j' (zs ++ ys) :=
  ⟨h.src.over hg (by intro e; have := (h.row.lt b e).1; omega) (fun b' off e hn e2 => by have := (h.row.lt b' e2).1; have := hab b' off e hn; omega),
   by rw [List.map_append]; exact hown,
   ⟨hg.os.trans h.gr.os, hg.tape.trans h.gr.tape, hg.output.trans h.gr.output, Nat.le_trans h.gr.size hg.size, fun q hq hne => (hg.block q (Nat.lt_of_lt_of_le hq h.gr.size) (fun e => by have := (h.row.lt q e.symm).1; omega)).trans (h.gr.block q hq hne)⟩⟩
end
theorem info_i64q : (Try.prog.info? 2).map (fun i => (i.zero, i.size, i.bytes)) = some (some (.int .i64 0), 1, 8) := by kernel_rfl
def DpR (t1 t2 : TypeId) (w : World) (e : Ending) (w' : World) : Prop := ∃ (N : Nat) (v1 v2 : Value) (j : Nat) (pts zs : List Int), e = .returned (.tuple #[v1, v2]) ∧ N ≤ 13 ∧ j ≤ 160 ∧ w'.ownsRow w.heap.size t1 1 v1 N (pts.map (Value.int .i64)) ∧ w'.ownsRow w.heap.size t2 2 v2 j (zs.map (Value.int .i64)) ∧ Below w.heap.size w w'
set_option maxRecDepth 8000 in
set_option maxHeartbeats 2000000 in
theorem DrawPairByPoints_any (A : Option Addr) (n c : Nat) (cs : List Int) (w : World) (hs : Sl w w.heap.size 1 A n (cs.map (Value.int .u8))) (hc : ∀ z ∈ cs, 0 ≤ z ∧ z ≤ 255) (hn : n ≤ 1048576) :
    Calls Try.prog 24 #[.slice A n c] w (DpR 2 52 w) := by
  have HS := Lib.hid hs
  have HC := Lib.hid hc
  obtain ⟨i0, ti, tz0, tz1, tz2⟩ := info_parts info_i64q
  have HI := Lib.hid (And.intro ti (And.intro tz0 (And.intro tz1 tz2)))
  clear hs hc ti tz0 tz1 tz2
  go_enter Try.func24, Try.ntmps24
  go_wp2_with fail
  refine (l00From_any A n c cs w HS.out HC.out).mono ?_
  rintro e w1 ⟨b, rfl, hb, S1, hb1⟩
  have HS1 := Lib.hid S1
  have HB1 := Lib.hid hb1
  have z1 := hb1.size
  clear S1 hb1
  go_wp2_with fail
  refine (l24Number_any b A n c 0 cs _ HS1.out hn (by omega)).mono ?_
  rintro e w2 ⟨x, rfl, x0, x1, S2, g2⟩
  obtain ⟨N, rfl⟩ := Int.eq_ofNat_of_zero_le x0
  have hN : N ≤ 13 := by omega
  have HS2 := Lib.hid S2
  have HB2 := Lib.hid (below_src HB1.out g2 hb z1)
  have z2 := HB2.out.size
  have hbl := S2.lt
  have HAB := Lib.hid S2.aBelow
  have HM0 : Hid (PR 2 w2 (w2.alloc (.cells #[] 2)) b A n c (0 + 4) cs (.slice (some ⟨w2.heap.size, 0, none⟩) 0 0) 0 []) := ⟨S2.later (Below.alloc (Below.refl _ _) (Nat.le_refl _) _), World.ownsRow_made _ _ 0 (Nat.le_refl _) (Nat.zero_le _) rfl, grown_alloc (World.grownBy.refl _ _) _⟩
  clear S2 g2 x0 x1
  go_wp2_with fail
  go_loopw [6, 7] (fun v i wr => ∃ (j : Nat) (zs : List Int), j ≤ N ∧ i = .int .i64 j ∧ PR 2 w2 wr b A n c (4 + 2 * j) cs v j zs) (fun _ i _ => N - (intOf i).toNat)
  case atStart => exact ⟨0, [], Nat.zero_le _, rfl, HM0.out⟩
  case round =>
    obtain ⟨j, zs, hj, rfl, hmr⟩ := hrel
    have HM := Lib.hid hmr
    have hgs := hmr.gr.size
    clear hmr
    by_cases hlt : j < N
    · go_wp2_with fail
      refine (pick_any b A n c (4 + 2 * j) cs 6 _ HM.out.src hn (by omega) (by omega)).mono ?_
      rintro e w4 ⟨y, rfl, -, -, -, S4, g4⟩
      have HM4 := Lib.hid (HM.out.draw hbl S4 g4)
      have HM5 := Lib.hid (HM4.out.alloc (.cells #[.int .i64 y] 2))
      have z4 := HM4.out.gr.size
      have z5 : w2.heap.size ≤ (w4.alloc (.cells #[.int .i64 y] 2)).heap.size := HM5.out.gr.size
      clear S4 g4
      go_wp2_with (at_builtin; refine wpList_append_sl _ rfl _ _ 24 rfl w2.heap.size 2 i0 _ 1 8 Try.underlying24 HI.out.1 HI.out.2.1 HI.out.2.2.1 HI.out.2.2.2 rfl (by decide) _ j (zs.map (Value.int .i64)) rfl HM5.out.row (w4.heap.size + 1) _ 1 1 [.int .i64 y] rfl (Sl.built rfl (Nat.lt_succ_self _) rfl) ?c1 ?c2 ?c3 ?c4 ?_)
      case c1 => intro u hu; simp at hu; subst hu; rfl
      case c2 => unfold maxLen; omega
      case c3 => omega
      case c4 => exact z5
      intro v' w6 hown6 hg6 _
      have HM6 := Lib.hid (HM5.out.app (ys := [y]) hbl HAB.out hown6 hg6)
      clear hown6 hg6
      go_wp2_with fail
      go_roundw
      case rel => exact ⟨j + 1, _, by omega, by go_num, HM6.out⟩
      case measure => first | (simp [intOf]; done) | (simp [intOf]; omega)
    · obtain rfl : j = N := by omega
      have hbl2 := HM.out.src.lt
      go_wp2_with fail
      refine (l24Bent_any b A n c (4 + 2 * j) cs j (by omega) (by omega) _ HM.out.src hn (by omega)).mono ?_
      rintro e w7 ⟨v2, j2, zs2, rfl, hj2, hm⟩
      have HMm := Lib.hid hm
      have HP7 := Lib.hid (HM.out.draw hbl hm.src hm.gr)
      have HB7 := Lib.hid (below_src HB2.out HP7.out.gr hb z2)
      clear hm
      go_wp2_with fail
      go_ret2
      exact ⟨j, _, v2, j2, zs, zs2, rfl, hN, hj2, own_base HP7.out.row z2, own_base HMm.out.row (by omega), HB7.out⟩
end Go.Proofs.Yteeplmnjipddaaa
