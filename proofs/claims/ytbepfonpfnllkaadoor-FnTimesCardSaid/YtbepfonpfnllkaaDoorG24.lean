/- FnTimes: the law. Conditions: the table of powers as it is laid. -/
import Derived.Test.YtbepfonpfnllkaaDoorG20
import Derived.Test.YtbepfonpfnllkaaDoorG21
import Derived.Test.YtbepfonpfnllkaaDoorG23
import Derived.Test.YtbepfonpfnllkaaDoorG11
import Derived.Test.YtbepfonpfnllkaaDoorG04
import Derived.Deep.DeepCutAuto
namespace Go.Proofs.YtbepfonpfnllkaaDoor
set_option linter.unusedSimpArgs false
set_option linter.unusedVariables false
open Go.RowKit Go.WideShapes Go.ChangeShapes

theorem b4_keep {w W W' : World} {q1 q2 q3 q4 : Nat} {t : TypeId} {c1 c2 c3 c4 : Array Value} (H : (Blk W q1 t c1 ∧ Blk W q2 t c2 ∧ Blk W q3 t c3 ∧ Blk W q4 t c4) ∧ Below w.heap.size w W) (hb : Below W.heap.size W W') : (Blk W' q1 t c1 ∧ Blk W' q2 t c2 ∧ Blk W' q3 t c3 ∧ Blk W' q4 t c4) ∧ Below w.heap.size w W' :=
  ⟨⟨H.1.1.later hb, H.1.2.1.later hb, H.1.2.2.1.later hb, H.1.2.2.2.later hb⟩, H.2.trans (hb.mono H.2.size)⟩
theorem b4_drew {w W : World} {q1 q2 q3 q4 : Nat} {t : TypeId} {c1 c2 c3 c4 : Array Value} (H : (Blk W q1 t c1 ∧ Blk W q2 t c2 ∧ Blk W q3 t c3 ∧ Blk W q4 t c4) ∧ Below w.heap.size w W) : (Blk W.drew q1 t c1 ∧ Blk W.drew q2 t c2 ∧ Blk W.drew q3 t c3 ∧ Blk W.drew q4 t c4) ∧ Below w.heap.size w W.drew :=
  ⟨⟨H.1.1, H.1.2.1, H.1.2.2.1, H.1.2.2.2⟩, Below.drew H.2⟩
theorem timeX_out {n : Int} (h : tB n = false) : timeX n = ⟨#[]⟩ := by rw [timeX, h]; rfl
theorem timeX_size (n : Int) : (timeX n).size ≤ 1000 := by
  cases h : tB n
  · rw [timeX_out h]; decide
  · obtain ⟨h0, h1⟩ := tB_bd h
    rw [timeX_in h0 h1]
    have := timeT_size h0 h1
    omega
theorem rdT_timeX {n r : Int} {ok : Bool} {t : ByteArray} (ht : timeX n = t) (hr : rdT t = (r, ok)) : (r = n ∧ ok = true ∧ t ≠ ⟨#[]⟩) ∨ (r = 0 ∧ ok = false ∧ t = ⟨#[]⟩) := by
  cases h : tB n
  · right
    have e : t = ⟨#[]⟩ := by rw [← ht, timeX_out h]
    have e2 : rdT t = (0, false) := by
      rw [e]
      refine rdT_no (fun n h0 h1 h4 => ?_)
      have h5 := (pS_time h0 h1 h4).1
      revert h5
      decide
    rw [e2] at hr
    injection hr with h1 h2
    exact ⟨h1.symm, h2.symm, e⟩
  · left
    obtain ⟨h0, h1⟩ := tB_bd h
    rw [timeX_in h0 h1] at ht
    rw [rdT_yes h0 h1 ht] at hr
    injection hr with h2 h3
    refine ⟨h2.symm, h3.symm, fun h4 => ?_⟩
    have h5 := (pS_time h0 h1 ht).1
    rw [h4] at h5
    revert h5
    decide
theorem rdT_back {s : ByteArray} {x : Int} (h : rdT s = (x, true)) : timeX x = s := by
  by_cases hp : pIb s.data.toList = true ∧ timeX (pIv s.data.toList) = s
  · rw [rdT, if_pos hp] at h
    injection h with h1 h2
    rw [← h1]
    exact hp.2
  · rw [rdT_rej hp] at h
    injection h with h1 h2
    cases h2
theorem ncR_good {l i d i' d' : Int} {zs : List Int} (h : ncR l i d = (zs, i', d', 0)) : zs = [l, l] ∧ vC zs i' d' 0 0 false false = true := by
  cases hq : (inB l 1 36000000 && tB i && tB d)
  · rw [ncR, hq, if_neg (by decide)] at h
    obtain ⟨-, -, -, h4⟩ := quad h
    exact absurd h4 (by decide)
  · rw [ncR, hq, if_pos rfl] at h
    obtain ⟨h1, h2, h3, -⟩ := quad h
    rw [Bool.and_eq_true, Bool.and_eq_true] at hq
    obtain ⟨⟨q1, q2⟩, q3⟩ := hq
    have hl := inB_of q1
    have e1 : tB l = true := inB_t (by omega) hl.2
    have e6 : decide (0 < l) = true := decide_eq_true (by omega)
    refine ⟨h1.symm, ?_⟩
    rw [← h1, ← h2, ← h3, vC_two, e1, q2, q3, e6]
    rfl
theorem ncR_len {l i d i' d' code : Int} {zs : List Int} (h : ncR l i d = (zs, i', d', code)) : zs.length ≤ 2 := by
  cases hq : (inB l 1 36000000 && tB i && tB d)
  · rw [ncR, hq, if_neg (by decide)] at h
    obtain ⟨h1, -, -, -⟩ := quad h
    rw [← h1]; decide
  · rw [ncR, hq, if_pos rfl] at h
    obtain ⟨h1, -, -, -⟩ := quad h
    rw [← h1]; simp
theorem sameC_refl (zs : List Int) (i d : Int) : sameC zs zs i i d d 0 0 0 0 false false false false = true := by
  rw [sameC, beq_self_eq_true, beq_self_eq_true, beq_self_eq_true]
  rfl
set_option maxRecDepth 20000 in
set_option maxHeartbeats 4000000 in
theorem fnTimes_walk (A : Option Addr) (n c : Nat) (cs : List Int) (w : World) (hs : Sl w w.heap.size 1 A n (cs.map (Value.int .u8))) (hm : n ≤ 9223372036854775807) (hb : ∀ z ∈ cs, 0 ≤ z ∧ z ≤ 255) (ht : TabW w) :
    Calls Tryd.prog 3 #[.slice A n c] w fun e w' => e = .returned (.bool true) ∧ Below w.heap.size w w' := by
  have HS := Lib.hid hs
  have HB := Lib.hid hb
  have HT := Lib.hid ht
  clear hs hb ht
  go_enter Tryd.func3, Tryd.ntmps3
  go_wp2_with fail
  refine (f6big_any A n c _).mono ?_
  rintro e w_ ⟨q, rfl, hq, rfl⟩
  cases q
  case true =>
    go_wp2_with fail
    go_ret
    exact ⟨rfl, by (repeat' (first | (with_reducible exact Below.refl _ _) | (with_reducible assumption) | (with_reducible refine Below.alloc ?_ ?_ _) | (with_reducible refine Below.drew ?_) | (with_reducible refine belowDrewN ?_ _) | (with_reducible refine Below.setCell ?_ ?_ _) | (with_reducible refine Below.via (by with_reducible assumption) ?_ ?_) | (with_reducible refine Below.viaD (by with_reducible assumption) ?_ ?_) | (with_reducible exact Below.size (by with_reducible assumption)) | go_size | (with_reducible refine Nat.le_trans ?_ (Below.size (by with_reducible assumption))) | (with_reducible refine Nat.le_trans ?_ (sizeAlloc _ _)) | (with_reducible refine Nat.le_trans ?_ (sizeSet _ _ _)) | (with_reducible refine Nat.le_trans ?_ (sizeDrew _))))⟩
  case false =>
  have hn := hq rfl
  clear hq
  go_wp2_with fail
  refine (DrawTimeText_any A n c cs _ HS.out HB.out (by omega)).mono ?_
  rintro e w1 ⟨nn, rfl, h1⟩
  have B1 := Lib.hid h1
  clear h1
  obtain ⟨t, htt⟩ : ∃ t, timeX nn = t := ⟨_, rfl⟩
  have htz : t.size ≤ 1000 := by rw [← htt]; exact timeX_size nn
  obtain ⟨r0, ok, hrd⟩ : ∃ x y, rdT t = (x, y) := ⟨_, _, rfl⟩
  have HE := Lib.hid (rdT_timeX htt hrd)
  have HTT := Lib.hid htt
  have HRD := Lib.hid hrd
  clear htt hrd
  go_wp2_with fail
  refine (TimeText_any nn t HTT.out _ (HT.out.later B1.out)).mono ?_
  rintro e w2 ⟨rfl, h2⟩
  have B2 := Lib.hid (Below.via h2 B1.out B1.out.size)
  clear h2
  go_wp2_with fail
  refine (ReadTime_any t r0 ok HRD.out (by omega) _ (HT.out.later B2.out)).mono ?_
  rintro e w3 ⟨rfl, h3⟩
  have B3 := Lib.hid (Below.via h3 B2.out B2.out.size)
  clear h3
  go_wp2_with fail
  refine (DrawReadTime_any A n c cs _ ((HS.out.below B3.out).mono B3.out.size) HB.out (by omega)).mono ?_
  rintro e w4 ⟨s, rfl, hsz, h4⟩
  have B4 := Lib.hid (Below.via h4 B3.out B3.out.size)
  clear h4
  obtain ⟨x0, ok2, hrs⟩ : ∃ x y, rdT s = (x, y) := ⟨_, _, rfl⟩
  have HRS := Lib.hid hrs
  clear hrs
  go_wp2_with fail
  refine (ReadTime_any s x0 ok2 HRS.out (by omega) _ (HT.out.later B4.out)).mono ?_
  rintro e w5 ⟨rfl, h5⟩
  have B5 := Lib.hid (Below.via h5 B4.out B4.out.size)
  clear h5
  go_wp2_with fail
  refine (sReadTime_any s x0 ok2 HRS.out (by omega) _).mono ?_
  rintro e w6 ⟨rfl, h6⟩
  have B6 := Lib.hid (Below.via h6 B5.out B5.out.size)
  clear h6
  go_wp2_with fail
  refine (DrawNewClock_any A n c cs _ ((HS.out.below B6.out).mono B6.out.size) HB.out (by omega)).mono ?_
  rintro e w7 ⟨l, i, d, rfl, h7⟩
  have B7 := Lib.hid (Below.via h7 B6.out B6.out.size)
  clear h7
  obtain ⟨zs, i', d', code, hnc⟩ : ∃ x y z u, ncR l i d = (x, y, z, u) := ⟨_, _, _, _, rfl⟩
  have HNC := Lib.hid hnc
  clear hnc
  go_wp2_with fail
  refine (NewClock_any l i d zs i' d' code HNC.out _).mono ?_
  rintro e w8 ⟨A8, g8, q8, cp8, rfl, hg8, hgl8, o8, h8⟩
  have N8 : Hid (Below w8.heap.size w8 (w8.alloc (.cells #[.slice A8 q8 cp8, .int .i64 i', .int .i64 d', .int .i64 0, .int .i64 0, .bool false, .bool false] 33))) := Below.alloc (Below.refl _ _) (Nat.le_refl _) _
  have B8 := Lib.hid (Below.via N8.out (Below.via h8 B7.out B7.out.size) (Below.via h8 B7.out B7.out.size).size)
  have X8 := Lib.hid (Blk.new w8 33 #[.slice A8 q8 cp8, .int .i64 i', .int .i64 d', .int .i64 0, .int .i64 0, .bool false, .bool false])
  have S8 := Lib.hid (o8.sl.later N8.out)
  have hq8 : q8 ≤ 9223372036854775807 := by have := o8.sl.ints; have := ncR_len HNC.out; omega
  clear o8 h8 N8
  go_wp2_with fail
  refine (sNewClock_any l i d zs i' d' code HNC.out _).mono ?_
  rintro e w9 ⟨A9, g9, q9, cp9, rfl, hg9, hgl9, o9, h9⟩
  have N9 : Hid (Below w9.heap.size w9 (w9.alloc (.cells #[.slice A9 q9 cp9, .int .i64 i', .int .i64 d', .int .i64 0, .int .i64 0, .bool false, .bool false] 33))) := Below.alloc (Below.refl _ _) (Nat.le_refl _) _
  have B9 := Lib.hid (Below.via N9.out (Below.via h9 B8.out B8.out.size) (Below.via h9 B8.out B8.out.size).size)
  have X9 := Lib.hid ((X8.out.later h9).later N9.out)
  have S9 := Lib.hid ((S8.out.later h9).later N9.out)
  have Y9 := Lib.hid (Blk.new w9 33 #[.slice A9 q9 cp9, .int .i64 i', .int .i64 d', .int .i64 0, .int .i64 0, .bool false, .bool false])
  have U9 := Lib.hid (o9.sl.later N9.out)
  have hq9 : q9 ≤ 9223372036854775807 := by have := o9.sl.ints; have := ncR_len HNC.out; omega
  clear o9 h9 N9 X8 S8
  go_wp2_with fail
  refine (DrawSameClock_any A n c cs _ ((HS.out.below B9.out).mono B9.out.size) HB.out (by omega)).mono ?_
  rintro e w10 ⟨Aa, na, ca, za, ia, da, pa, sa, ra, fa, Ab, nb, cb, zb, ib, db, pb, sb, rb, fb, rfl, hna, hnb, Sa, Sb, h10⟩
  go_upto_region 13 with fail
  obtain ⟨w11, hw11⟩ : ∃ w11, w11 = (w10.alloc (.cells #[.slice Aa na ca, .int .i64 ia, .int .i64 da, .int .i64 pa, .int .i64 sa, .bool ra, .bool fa] 33)).alloc (.cells #[.slice Ab nb cb, .int .i64 ib, .int .i64 db, .int .i64 pb, .int .i64 sb, .bool rb, .bool fb] 33) := ⟨_, rfl⟩
  have Na : Hid (Below w10.heap.size w10 (w10.alloc (.cells #[.slice Aa na ca, .int .i64 ia, .int .i64 da, .int .i64 pa, .int .i64 sa, .bool ra, .bool fa] 33))) := Below.alloc (Below.refl _ _) (Nat.le_refl _) _
  have Nb : Hid (Below (w10.alloc (.cells #[.slice Aa na ca, .int .i64 ia, .int .i64 da, .int .i64 pa, .int .i64 sa, .bool ra, .bool fa] 33)).heap.size (w10.alloc (.cells #[.slice Aa na ca, .int .i64 ia, .int .i64 da, .int .i64 pa, .int .i64 sa, .bool ra, .bool fa] 33)) w11) := by unfold Hid; rw [hw11]; exact Below.alloc (Below.refl _ _) (Nat.le_refl _) _
  have N11 := Lib.hid (Below.via Nb.out Na.out Na.out.size)
  have B11 := Lib.hid (Below.via N11.out (Below.via h10 B9.out B9.out.size) (Below.via h10 B9.out B9.out.size).size)
  have X11 := Lib.hid ((X9.out.later h10).later N11.out)
  have S11 := Lib.hid ((S9.out.later h10).later N11.out)
  have Y11 := Lib.hid ((Y9.out.later h10).later N11.out)
  have U11 := Lib.hid ((U9.out.later h10).later N11.out)
  have Sa11 := Lib.hid (Sa.later N11.out)
  have Sb11 := Lib.hid (Sb.later N11.out)
  have Za := Lib.hid ((Blk.new w10 33 #[.slice Aa na ca, .int .i64 ia, .int .i64 da, .int .i64 pa, .int .i64 sa, .bool ra, .bool fa]).later Nb.out)
  have Zb : Hid (Blk w11 (w10.heap.size + 1) 33 #[.slice Ab nb cb, .int .i64 ib, .int .i64 db, .int .i64 pb, .int .i64 sb, .bool rb, .bool fb]) := by unfold Hid; rw [hw11]; exact Blk.new' (by simp)
  rw [← hw11]
  have HT11 := Lib.hid (HT.out.later B11.out)
  clear hw11 Na Nb N11 X9 S9 Y9 U9 Sa Sb h10 B9 B8 B7 B6 B5 B4 B3 B2 B1 HT
  obtain ⟨V, hV⟩ : ∃ v, sameC za zb ia ib da db pa pb sa sb ra rb fa fb = v := ⟨_, rfl⟩
  have HV := Lib.hid hV
  clear hV
  have HS0 : Hid ((Blk w11 w8.heap.size 33 #[.slice A8 q8 cp8, .int .i64 i', .int .i64 d', .int .i64 0, .int .i64 0, .bool false, .bool false] ∧ Blk w11 w9.heap.size 33 #[.slice A9 q9 cp9, .int .i64 i', .int .i64 d', .int .i64 0, .int .i64 0, .bool false, .bool false] ∧ Blk w11 w10.heap.size 33 #[.slice Aa na ca, .int .i64 ia, .int .i64 da, .int .i64 pa, .int .i64 sa, .bool ra, .bool fa] ∧ Blk w11 (w10.heap.size + 1) 33 #[.slice Ab nb cb, .int .i64 ib, .int .i64 db, .int .i64 pb, .int .i64 sb, .bool rb, .bool fb]) ∧ Below w11.heap.size w11 w11) := ⟨⟨X11.out, Y11.out, Za.out, Zb.out⟩, Below.refl _ _⟩
  have e1 : (code != code) = false := by rw [bne, beq_self_eq_true]; rfl
  have e2 : (x0 != x0) = false := by rw [bne, beq_self_eq_true]; rfl
  have e3 : (V != V) = false := by cases V <;> rfl
  have e5 : (ok2 != ok2) = false := by cases ok2 <;> rfl
  have e4 : (t.toList == t.toList) = true := beq_self_eq_true _
  go_cut [7, 8, 9, 12, 15, 16, 116] (fun s7 s8 s9 s12 s15 s16 s116 wx => s7 = .string s ∧ s8 = .int .i64 x0 ∧ s9 = .bool ok2 ∧ s12 = .int .i64 l ∧ s15 = .pointer (some ⟨w8.heap.size, 0, none⟩) ∧ s16 = .int .i64 code ∧ s116 = .bool false ∧ Below w11.heap.size w11 wx)
  case first =>
    rcases HE.out with ⟨rfl, rfl, hne⟩ | ⟨rfl, rfl, hte⟩
    · have hz0 : (t.toList == ({ data := #[] } : ByteArray).toList) = false := by rw [beq_eq_false_iff_ne]; intro h; exact hne (toList_inj h)
      have hz1 : (t.toList == []) = false := by rw [beq_eq_false_iff_ne]; intro h; rw [ByteArray.toList_eq] at h; exact hne (by rw [ba_self t, h])
      have e6 : (r0 != r0) = false := by rw [bne, beq_self_eq_true]; rfl
      clear hne
      refine wp_region_held_drew (S := (fun W => (Blk W w8.heap.size 33 #[.slice A8 q8 cp8, .int .i64 i', .int .i64 d', .int .i64 0, .int .i64 0, .bool false, .bool false] ∧ Blk W w9.heap.size 33 #[.slice A9 q9 cp9, .int .i64 i', .int .i64 d', .int .i64 0, .int .i64 0, .bool false, .bool false] ∧ Blk W w10.heap.size 33 #[.slice Aa na ca, .int .i64 ia, .int .i64 da, .int .i64 pa, .int .i64 sa, .bool ra, .bool fa] ∧ Blk W (w10.heap.size + 1) 33 #[.slice Ab nb cb, .int .i64 ib, .int .i64 db, .int .i64 pb, .int .i64 sb, .bool rb, .bool fb]) ∧ Below w11.heap.size w11 W)) (by kernel_rfl) ?_ (fun hHeld => ?_)
      focus ((try dsimp only); (first | (exact b4_keep hHeld hb_) | (exact b4_drew HS0.out) | (exact HS0.out)))
      refine H_take (i := 0) (v := ?_) rfl (by kernel_rfl) (by kernel_rfl) (by kernel_rfl) (fun _ _ _ h => h) (by rfl) ?_ (by assumption) ?_
      rotate_left
      focus (intro w hSw; obtain ⟨⟨H1, H2, H3, H4⟩, hB⟩ := hSw; obtain ⟨⟨c0, c1, c2, c3, c4, c5, c6⟩, _, _⟩ := blk7 H1; obtain ⟨⟨d0, d1, d2, d3, d4, d5, d6⟩, _, _⟩ := blk7 H2; obtain ⟨⟨a0, a1, a2, a3, a4, a5, a6⟩, _, _⟩ := blk7 H3; obtain ⟨⟨b0, b1, b2, b3, b4, b5, b6⟩, _, _⟩ := blk7 H4; go_simp; first | done | with_reducible rfl | (trace_state; fail))
      try simp only [Act.put, List.setIfInBounds_toArray, List.set_cons_zero, List.set_cons_succ]
      refine H_take (i := 1) (v := ?_) rfl (by kernel_rfl) (by kernel_rfl) (by kernel_rfl) (fun _ _ _ h => h) (by rfl) ?_ (by assumption) ?_
      rotate_left
      focus (intro w hSw; obtain ⟨⟨H1, H2, H3, H4⟩, hB⟩ := hSw; obtain ⟨⟨c0, c1, c2, c3, c4, c5, c6⟩, _, _⟩ := blk7 H1; obtain ⟨⟨d0, d1, d2, d3, d4, d5, d6⟩, _, _⟩ := blk7 H2; obtain ⟨⟨a0, a1, a2, a3, a4, a5, a6⟩, _, _⟩ := blk7 H3; obtain ⟨⟨b0, b1, b2, b3, b4, b5, b6⟩, _, _⟩ := blk7 H4; go_simp; first | done | with_reducible rfl | (trace_state; fail))
      try simp only [Act.put, List.setIfInBounds_toArray, List.set_cons_zero, List.set_cons_succ]
      refine H_call (i := 2) rfl (by kernel_rfl) (fun K hK => ?_)
      go_simp
      (go_at_call 14; (with_reducible refine Calls.mono (sTimeText_any r0 t HTT.out _) ?_); rintro e v1 ⟨rfl, hb_⟩)
      refine hK.out _ _ ?_ (fun hHeld => ?_)
      focus ((try dsimp only); (first | (exact b4_keep hHeld hb_) | (exact b4_drew HS0.out) | (exact HS0.out)))
      clear hK K
      try simp only [Act.put, List.setIfInBounds_toArray, List.set_cons_zero, List.set_cons_succ]
      refine H_take (i := 3) (v := ?_) rfl (by kernel_rfl) (by kernel_rfl) (by kernel_rfl) (fun _ _ _ h => h) (by rfl) ?_ (by assumption) ?_
      rotate_left
      focus (intro w hSw; obtain ⟨⟨H1, H2, H3, H4⟩, hB⟩ := hSw; obtain ⟨⟨c0, c1, c2, c3, c4, c5, c6⟩, _, _⟩ := blk7 H1; obtain ⟨⟨d0, d1, d2, d3, d4, d5, d6⟩, _, _⟩ := blk7 H2; obtain ⟨⟨a0, a1, a2, a3, a4, a5, a6⟩, _, _⟩ := blk7 H3; obtain ⟨⟨b0, b1, b2, b3, b4, b5, b6⟩, _, _⟩ := blk7 H4; go_simp; first | done | with_reducible rfl | (trace_state; fail))
      try simp only [Act.put, List.setIfInBounds_toArray, List.set_cons_zero, List.set_cons_succ]
      refine H_take (i := 4) (v := ?_) rfl (by kernel_rfl) (by kernel_rfl) (by kernel_rfl) (fun _ _ _ h => h) (by rfl) ?_ (by assumption) ?_
      rotate_left
      focus (intro w hSw; obtain ⟨⟨H1, H2, H3, H4⟩, hB⟩ := hSw; obtain ⟨⟨c0, c1, c2, c3, c4, c5, c6⟩, _, _⟩ := blk7 H1; obtain ⟨⟨d0, d1, d2, d3, d4, d5, d6⟩, _, _⟩ := blk7 H2; obtain ⟨⟨a0, a1, a2, a3, a4, a5, a6⟩, _, _⟩ := blk7 H3; obtain ⟨⟨b0, b1, b2, b3, b4, b5, b6⟩, _, _⟩ := blk7 H4; go_simp; first | done | with_reducible rfl | (trace_state; fail))
      try simp only [Act.put, List.setIfInBounds_toArray, List.set_cons_zero, List.set_cons_succ]
      refine H_take (i := 5) (v := ?_) rfl (by kernel_rfl) (by kernel_rfl) (by kernel_rfl) (fun _ _ _ h => h) (by rfl) ?_ (by assumption) ?_
      rotate_left
      focus (intro w hSw; obtain ⟨⟨H1, H2, H3, H4⟩, hB⟩ := hSw; obtain ⟨⟨c0, c1, c2, c3, c4, c5, c6⟩, _, _⟩ := blk7 H1; obtain ⟨⟨d0, d1, d2, d3, d4, d5, d6⟩, _, _⟩ := blk7 H2; obtain ⟨⟨a0, a1, a2, a3, a4, a5, a6⟩, _, _⟩ := blk7 H3; obtain ⟨⟨b0, b1, b2, b3, b4, b5, b6⟩, _, _⟩ := blk7 H4; go_simp; first | done | with_reducible rfl | (trace_state; fail))
      try simp only [Act.put, List.setIfInBounds_toArray, List.set_cons_zero, List.set_cons_succ]
      refine H_take (i := 6) (v := ?_) rfl (by kernel_rfl) (by kernel_rfl) (by kernel_rfl) (fun _ _ _ h => h) (by rfl) ?_ (by assumption) ?_
      rotate_left
      focus (intro w hSw; obtain ⟨⟨H1, H2, H3, H4⟩, hB⟩ := hSw; obtain ⟨⟨c0, c1, c2, c3, c4, c5, c6⟩, _, _⟩ := blk7 H1; obtain ⟨⟨d0, d1, d2, d3, d4, d5, d6⟩, _, _⟩ := blk7 H2; obtain ⟨⟨a0, a1, a2, a3, a4, a5, a6⟩, _, _⟩ := blk7 H3; obtain ⟨⟨b0, b1, b2, b3, b4, b5, b6⟩, _, _⟩ := blk7 H4; go_simp; first | done | with_reducible rfl | (trace_state; fail))
      try simp only [Act.put, List.setIfInBounds_toArray, List.set_cons_zero, List.set_cons_succ]
      refine H_take (i := 7) (v := ?_) rfl (by kernel_rfl) (by kernel_rfl) (by kernel_rfl) (fun _ _ _ h => h) (by rfl) ?_ (by assumption) ?_
      rotate_left
      focus (intro w hSw; obtain ⟨⟨H1, H2, H3, H4⟩, hB⟩ := hSw; obtain ⟨⟨c0, c1, c2, c3, c4, c5, c6⟩, _, _⟩ := blk7 H1; obtain ⟨⟨d0, d1, d2, d3, d4, d5, d6⟩, _, _⟩ := blk7 H2; obtain ⟨⟨a0, a1, a2, a3, a4, a5, a6⟩, _, _⟩ := blk7 H3; obtain ⟨⟨b0, b1, b2, b3, b4, b5, b6⟩, _, _⟩ := blk7 H4; go_simp; first | done | with_reducible rfl | (trace_state; fail))
      try simp only [Act.put, List.setIfInBounds_toArray, List.set_cons_zero, List.set_cons_succ]
      refine H_take (i := 8) (v := ?_) rfl (by kernel_rfl) (by kernel_rfl) (by kernel_rfl) (fun _ _ _ h => h) (by rfl) ?_ (by assumption) ?_
      rotate_left
      focus (intro w hSw; obtain ⟨⟨H1, H2, H3, H4⟩, hB⟩ := hSw; obtain ⟨⟨c0, c1, c2, c3, c4, c5, c6⟩, _, _⟩ := blk7 H1; obtain ⟨⟨d0, d1, d2, d3, d4, d5, d6⟩, _, _⟩ := blk7 H2; obtain ⟨⟨a0, a1, a2, a3, a4, a5, a6⟩, _, _⟩ := blk7 H3; obtain ⟨⟨b0, b1, b2, b3, b4, b5, b6⟩, _, _⟩ := blk7 H4; go_simp; first | done | with_reducible rfl | (trace_state; fail))
      try simp only [Act.put, List.setIfInBounds_toArray, List.set_cons_zero, List.set_cons_succ]
      refine H_take (i := 9) (v := ?_) rfl (by kernel_rfl) (by kernel_rfl) (by kernel_rfl) (fun _ _ _ h => h) (by rfl) ?_ (by assumption) ?_
      rotate_left
      focus (intro w hSw; obtain ⟨⟨H1, H2, H3, H4⟩, hB⟩ := hSw; obtain ⟨⟨c0, c1, c2, c3, c4, c5, c6⟩, _, _⟩ := blk7 H1; obtain ⟨⟨d0, d1, d2, d3, d4, d5, d6⟩, _, _⟩ := blk7 H2; obtain ⟨⟨a0, a1, a2, a3, a4, a5, a6⟩, _, _⟩ := blk7 H3; obtain ⟨⟨b0, b1, b2, b3, b4, b5, b6⟩, _, _⟩ := blk7 H4; go_simp; first | done | with_reducible rfl | (trace_state; fail))
      try simp only [Act.put, List.setIfInBounds_toArray, List.set_cons_zero, List.set_cons_succ]
      refine H_take (i := 10) (v := ?_) rfl (by kernel_rfl) (by kernel_rfl) (by kernel_rfl) (fun _ _ _ h => h) (by rfl) ?_ (by assumption) ?_
      rotate_left
      focus (intro w hSw; obtain ⟨⟨H1, H2, H3, H4⟩, hB⟩ := hSw; obtain ⟨⟨c0, c1, c2, c3, c4, c5, c6⟩, _, _⟩ := blk7 H1; obtain ⟨⟨d0, d1, d2, d3, d4, d5, d6⟩, _, _⟩ := blk7 H2; obtain ⟨⟨a0, a1, a2, a3, a4, a5, a6⟩, _, _⟩ := blk7 H3; obtain ⟨⟨b0, b1, b2, b3, b4, b5, b6⟩, _, _⟩ := blk7 H4; go_simp; first | done | with_reducible rfl | (trace_state; fail))
      try simp only [Act.put, List.setIfInBounds_toArray, List.set_cons_zero, List.set_cons_succ]
      refine H_take (i := 11) (v := ?_) rfl (by kernel_rfl) (by kernel_rfl) (by kernel_rfl) (fun _ _ _ h => h) (by rfl) ?_ (by assumption) ?_
      rotate_left
      focus (intro w hSw; obtain ⟨⟨H1, H2, H3, H4⟩, hB⟩ := hSw; obtain ⟨⟨c0, c1, c2, c3, c4, c5, c6⟩, _, _⟩ := blk7 H1; obtain ⟨⟨d0, d1, d2, d3, d4, d5, d6⟩, _, _⟩ := blk7 H2; obtain ⟨⟨a0, a1, a2, a3, a4, a5, a6⟩, _, _⟩ := blk7 H3; obtain ⟨⟨b0, b1, b2, b3, b4, b5, b6⟩, _, _⟩ := blk7 H4; go_simp; first | done | with_reducible rfl | (trace_state; fail))
      try simp only [Act.put, List.setIfInBounds_toArray, List.set_cons_zero, List.set_cons_succ]
      refine H_take (i := 12) (v := ?_) rfl (by kernel_rfl) (by kernel_rfl) (by kernel_rfl) (fun _ _ _ h => h) (by rfl) ?_ (by assumption) ?_
      rotate_left
      focus (intro w hSw; obtain ⟨⟨H1, H2, H3, H4⟩, hB⟩ := hSw; obtain ⟨⟨c0, c1, c2, c3, c4, c5, c6⟩, _, _⟩ := blk7 H1; obtain ⟨⟨d0, d1, d2, d3, d4, d5, d6⟩, _, _⟩ := blk7 H2; obtain ⟨⟨a0, a1, a2, a3, a4, a5, a6⟩, _, _⟩ := blk7 H3; obtain ⟨⟨b0, b1, b2, b3, b4, b5, b6⟩, _, _⟩ := blk7 H4; go_simp; first | done | with_reducible rfl | (trace_state; fail))
      try simp only [Act.put, List.setIfInBounds_toArray, List.set_cons_zero, List.set_cons_succ]
      refine H_take (i := 13) (v := ?_) rfl (by kernel_rfl) (by kernel_rfl) (by kernel_rfl) (fun _ _ _ h => h) (by rfl) ?_ (by assumption) ?_
      rotate_left
      focus (intro w hSw; obtain ⟨⟨H1, H2, H3, H4⟩, hB⟩ := hSw; obtain ⟨⟨c0, c1, c2, c3, c4, c5, c6⟩, _, _⟩ := blk7 H1; obtain ⟨⟨d0, d1, d2, d3, d4, d5, d6⟩, _, _⟩ := blk7 H2; obtain ⟨⟨a0, a1, a2, a3, a4, a5, a6⟩, _, _⟩ := blk7 H3; obtain ⟨⟨b0, b1, b2, b3, b4, b5, b6⟩, _, _⟩ := blk7 H4; go_simp; first | done | with_reducible rfl | (trace_state; fail))
      try simp only [Act.put, List.setIfInBounds_toArray, List.set_cons_zero, List.set_cons_succ]
      refine H_take (i := 14) (v := ?_) rfl (by kernel_rfl) (by kernel_rfl) (by kernel_rfl) (fun _ _ _ h => h) (by rfl) ?_ (by assumption) ?_
      rotate_left
      focus (intro w hSw; obtain ⟨⟨H1, H2, H3, H4⟩, hB⟩ := hSw; obtain ⟨⟨c0, c1, c2, c3, c4, c5, c6⟩, _, _⟩ := blk7 H1; obtain ⟨⟨d0, d1, d2, d3, d4, d5, d6⟩, _, _⟩ := blk7 H2; obtain ⟨⟨a0, a1, a2, a3, a4, a5, a6⟩, _, _⟩ := blk7 H3; obtain ⟨⟨b0, b1, b2, b3, b4, b5, b6⟩, _, _⟩ := blk7 H4; go_simp; first | done | with_reducible rfl | (trace_state; fail))
      try simp only [Act.put, List.setIfInBounds_toArray, List.set_cons_zero, List.set_cons_succ]
      refine H_take (i := 15) (v := ?_) rfl (by kernel_rfl) (by kernel_rfl) (by kernel_rfl) (fun _ _ _ h => h) (by rfl) ?_ (by assumption) ?_
      rotate_left
      focus (intro w hSw; obtain ⟨⟨H1, H2, H3, H4⟩, hB⟩ := hSw; obtain ⟨⟨c0, c1, c2, c3, c4, c5, c6⟩, _, _⟩ := blk7 H1; obtain ⟨⟨d0, d1, d2, d3, d4, d5, d6⟩, _, _⟩ := blk7 H2; obtain ⟨⟨a0, a1, a2, a3, a4, a5, a6⟩, _, _⟩ := blk7 H3; obtain ⟨⟨b0, b1, b2, b3, b4, b5, b6⟩, _, _⟩ := blk7 H4; go_simp; first | done | with_reducible rfl | (trace_state; fail))
      try simp only [Act.put, List.setIfInBounds_toArray, List.set_cons_zero, List.set_cons_succ]
      refine H_take (i := 16) (v := ?_) rfl (by kernel_rfl) (by kernel_rfl) (by kernel_rfl) (fun _ _ _ h => h) (by rfl) ?_ (by assumption) ?_
      rotate_left
      focus (intro w hSw; obtain ⟨⟨H1, H2, H3, H4⟩, hB⟩ := hSw; obtain ⟨⟨c0, c1, c2, c3, c4, c5, c6⟩, _, _⟩ := blk7 H1; obtain ⟨⟨d0, d1, d2, d3, d4, d5, d6⟩, _, _⟩ := blk7 H2; obtain ⟨⟨a0, a1, a2, a3, a4, a5, a6⟩, _, _⟩ := blk7 H3; obtain ⟨⟨b0, b1, b2, b3, b4, b5, b6⟩, _, _⟩ := blk7 H4; go_simp; first | done | with_reducible rfl | (trace_state; fail))
      try simp only [Act.put, List.setIfInBounds_toArray, List.set_cons_zero, List.set_cons_succ]
      refine H_take (i := 17) (v := ?_) rfl (by kernel_rfl) (by kernel_rfl) (by kernel_rfl) (fun _ _ _ h => h) (by rfl) ?_ (by assumption) ?_
      rotate_left
      focus (intro w hSw; obtain ⟨⟨H1, H2, H3, H4⟩, hB⟩ := hSw; obtain ⟨⟨c0, c1, c2, c3, c4, c5, c6⟩, _, _⟩ := blk7 H1; obtain ⟨⟨d0, d1, d2, d3, d4, d5, d6⟩, _, _⟩ := blk7 H2; obtain ⟨⟨a0, a1, a2, a3, a4, a5, a6⟩, _, _⟩ := blk7 H3; obtain ⟨⟨b0, b1, b2, b3, b4, b5, b6⟩, _, _⟩ := blk7 H4; go_simp; first | done | with_reducible rfl | (trace_state; fail))
      try simp only [Act.put, List.setIfInBounds_toArray, List.set_cons_zero, List.set_cons_succ]
      refine H_take (i := 18) (v := ?_) rfl (by kernel_rfl) (by kernel_rfl) (by kernel_rfl) (fun _ _ _ h => h) (by rfl) ?_ (by assumption) ?_
      rotate_left
      focus (intro w hSw; obtain ⟨⟨H1, H2, H3, H4⟩, hB⟩ := hSw; obtain ⟨⟨c0, c1, c2, c3, c4, c5, c6⟩, _, _⟩ := blk7 H1; obtain ⟨⟨d0, d1, d2, d3, d4, d5, d6⟩, _, _⟩ := blk7 H2; obtain ⟨⟨a0, a1, a2, a3, a4, a5, a6⟩, _, _⟩ := blk7 H3; obtain ⟨⟨b0, b1, b2, b3, b4, b5, b6⟩, _, _⟩ := blk7 H4; go_simp; first | done | with_reducible rfl | (trace_state; fail))
      try simp only [Act.put, List.setIfInBounds_toArray, List.set_cons_zero, List.set_cons_succ]
      refine H_take (i := 19) (v := ?_) rfl (by kernel_rfl) (by kernel_rfl) (by kernel_rfl) (fun _ _ _ h => h) (by rfl) ?_ (by assumption) ?_
      rotate_left
      focus (intro w hSw; obtain ⟨⟨H1, H2, H3, H4⟩, hB⟩ := hSw; obtain ⟨⟨c0, c1, c2, c3, c4, c5, c6⟩, _, _⟩ := blk7 H1; obtain ⟨⟨d0, d1, d2, d3, d4, d5, d6⟩, _, _⟩ := blk7 H2; obtain ⟨⟨a0, a1, a2, a3, a4, a5, a6⟩, _, _⟩ := blk7 H3; obtain ⟨⟨b0, b1, b2, b3, b4, b5, b6⟩, _, _⟩ := blk7 H4; go_simp; first | done | with_reducible rfl | (trace_state; fail))
      try simp only [Act.put, List.setIfInBounds_toArray, List.set_cons_zero, List.set_cons_succ]
      refine H_take (i := 20) (v := ?_) rfl (by kernel_rfl) (by kernel_rfl) (by kernel_rfl) (fun _ _ _ h => h) (by rfl) ?_ (by assumption) ?_
      rotate_left
      focus (intro w hSw; obtain ⟨⟨H1, H2, H3, H4⟩, hB⟩ := hSw; obtain ⟨⟨c0, c1, c2, c3, c4, c5, c6⟩, _, _⟩ := blk7 H1; obtain ⟨⟨d0, d1, d2, d3, d4, d5, d6⟩, _, _⟩ := blk7 H2; obtain ⟨⟨a0, a1, a2, a3, a4, a5, a6⟩, _, _⟩ := blk7 H3; obtain ⟨⟨b0, b1, b2, b3, b4, b5, b6⟩, _, _⟩ := blk7 H4; go_simp; first | done | with_reducible rfl | (trace_state; fail))
      try simp only [Act.put, List.setIfInBounds_toArray, List.set_cons_zero, List.set_cons_succ]
      refine H_take (i := 21) (v := ?_) rfl (by kernel_rfl) (by kernel_rfl) (by kernel_rfl) (fun _ _ _ h => h) (by rfl) ?_ (by assumption) ?_
      rotate_left
      focus (intro w hSw; obtain ⟨⟨H1, H2, H3, H4⟩, hB⟩ := hSw; obtain ⟨⟨c0, c1, c2, c3, c4, c5, c6⟩, _, _⟩ := blk7 H1; obtain ⟨⟨d0, d1, d2, d3, d4, d5, d6⟩, _, _⟩ := blk7 H2; obtain ⟨⟨a0, a1, a2, a3, a4, a5, a6⟩, _, _⟩ := blk7 H3; obtain ⟨⟨b0, b1, b2, b3, b4, b5, b6⟩, _, _⟩ := blk7 H4; go_simp; first | done | with_reducible rfl | (trace_state; fail))
      try simp only [Act.put, List.setIfInBounds_toArray, List.set_cons_zero, List.set_cons_succ]
      refine H_take (i := 22) (v := ?_) rfl (by kernel_rfl) (by kernel_rfl) (by kernel_rfl) (fun _ _ _ h => h) (by rfl) ?_ (by assumption) ?_
      rotate_left
      focus (intro w hSw; obtain ⟨⟨H1, H2, H3, H4⟩, hB⟩ := hSw; obtain ⟨⟨c0, c1, c2, c3, c4, c5, c6⟩, _, _⟩ := blk7 H1; obtain ⟨⟨d0, d1, d2, d3, d4, d5, d6⟩, _, _⟩ := blk7 H2; obtain ⟨⟨a0, a1, a2, a3, a4, a5, a6⟩, _, _⟩ := blk7 H3; obtain ⟨⟨b0, b1, b2, b3, b4, b5, b6⟩, _, _⟩ := blk7 H4; go_simp; first | done | with_reducible rfl | (trace_state; fail))
      try simp only [Act.put, List.setIfInBounds_toArray, List.set_cons_zero, List.set_cons_succ]
      refine H_take (i := 23) (v := ?_) rfl (by kernel_rfl) (by kernel_rfl) (by kernel_rfl) (fun _ _ _ h => h) (by rfl) ?_ (by assumption) ?_
      rotate_left
      focus (intro w hSw; obtain ⟨⟨H1, H2, H3, H4⟩, hB⟩ := hSw; obtain ⟨⟨c0, c1, c2, c3, c4, c5, c6⟩, _, _⟩ := blk7 H1; obtain ⟨⟨d0, d1, d2, d3, d4, d5, d6⟩, _, _⟩ := blk7 H2; obtain ⟨⟨a0, a1, a2, a3, a4, a5, a6⟩, _, _⟩ := blk7 H3; obtain ⟨⟨b0, b1, b2, b3, b4, b5, b6⟩, _, _⟩ := blk7 H4; go_simp; first | done | with_reducible rfl | (trace_state; fail))
      try simp only [Act.put, List.setIfInBounds_toArray, List.set_cons_zero, List.set_cons_succ]
      refine H_take (i := 24) (v := ?_) rfl (by kernel_rfl) (by kernel_rfl) (by kernel_rfl) (fun _ _ _ h => h) (by rfl) ?_ (by assumption) ?_
      rotate_left
      focus (intro w hSw; obtain ⟨⟨H1, H2, H3, H4⟩, hB⟩ := hSw; obtain ⟨⟨c0, c1, c2, c3, c4, c5, c6⟩, _, _⟩ := blk7 H1; obtain ⟨⟨d0, d1, d2, d3, d4, d5, d6⟩, _, _⟩ := blk7 H2; obtain ⟨⟨a0, a1, a2, a3, a4, a5, a6⟩, _, _⟩ := blk7 H3; obtain ⟨⟨b0, b1, b2, b3, b4, b5, b6⟩, _, _⟩ := blk7 H4; go_simp; first | done | with_reducible rfl | (trace_state; fail))
      try simp only [Act.put, List.setIfInBounds_toArray, List.set_cons_zero, List.set_cons_succ]
      refine H_take (i := 25) (v := ?_) rfl (by kernel_rfl) (by kernel_rfl) (by kernel_rfl) (fun _ _ _ h => h) (by rfl) ?_ (by assumption) ?_
      rotate_left
      focus (intro w hSw; obtain ⟨⟨H1, H2, H3, H4⟩, hB⟩ := hSw; obtain ⟨⟨c0, c1, c2, c3, c4, c5, c6⟩, _, _⟩ := blk7 H1; obtain ⟨⟨d0, d1, d2, d3, d4, d5, d6⟩, _, _⟩ := blk7 H2; obtain ⟨⟨a0, a1, a2, a3, a4, a5, a6⟩, _, _⟩ := blk7 H3; obtain ⟨⟨b0, b1, b2, b3, b4, b5, b6⟩, _, _⟩ := blk7 H4; go_simp; first | done | with_reducible rfl | (trace_state; fail))
      try simp only [Act.put, List.setIfInBounds_toArray, List.set_cons_zero, List.set_cons_succ]
      refine H_take (i := 26) (v := ?_) rfl (by kernel_rfl) (by kernel_rfl) (by kernel_rfl) (fun _ _ _ h => h) (by rfl) ?_ (by assumption) ?_
      rotate_left
      focus (intro w hSw; obtain ⟨⟨H1, H2, H3, H4⟩, hB⟩ := hSw; obtain ⟨⟨c0, c1, c2, c3, c4, c5, c6⟩, _, _⟩ := blk7 H1; obtain ⟨⟨d0, d1, d2, d3, d4, d5, d6⟩, _, _⟩ := blk7 H2; obtain ⟨⟨a0, a1, a2, a3, a4, a5, a6⟩, _, _⟩ := blk7 H3; obtain ⟨⟨b0, b1, b2, b3, b4, b5, b6⟩, _, _⟩ := blk7 H4; go_simp; first | done | with_reducible rfl | (trace_state; fail))
      try simp only [Act.put, List.setIfInBounds_toArray, List.set_cons_zero, List.set_cons_succ]
      refine H_take (i := 27) (v := ?_) rfl (by kernel_rfl) (by kernel_rfl) (by kernel_rfl) (fun _ _ _ h => h) (by rfl) ?_ (by assumption) ?_
      rotate_left
      focus (intro w hSw; obtain ⟨⟨H1, H2, H3, H4⟩, hB⟩ := hSw; obtain ⟨⟨c0, c1, c2, c3, c4, c5, c6⟩, _, _⟩ := blk7 H1; obtain ⟨⟨d0, d1, d2, d3, d4, d5, d6⟩, _, _⟩ := blk7 H2; obtain ⟨⟨a0, a1, a2, a3, a4, a5, a6⟩, _, _⟩ := blk7 H3; obtain ⟨⟨b0, b1, b2, b3, b4, b5, b6⟩, _, _⟩ := blk7 H4; go_simp; first | done | with_reducible rfl | (trace_state; fail))
      try simp only [Act.put, List.setIfInBounds_toArray, List.set_cons_zero, List.set_cons_succ]
      refine H_take (i := 28) (v := ?_) rfl (by kernel_rfl) (by kernel_rfl) (by kernel_rfl) (fun _ _ _ h => h) (by rfl) ?_ (by assumption) ?_
      rotate_left
      focus (intro w hSw; obtain ⟨⟨H1, H2, H3, H4⟩, hB⟩ := hSw; obtain ⟨⟨c0, c1, c2, c3, c4, c5, c6⟩, _, _⟩ := blk7 H1; obtain ⟨⟨d0, d1, d2, d3, d4, d5, d6⟩, _, _⟩ := blk7 H2; obtain ⟨⟨a0, a1, a2, a3, a4, a5, a6⟩, _, _⟩ := blk7 H3; obtain ⟨⟨b0, b1, b2, b3, b4, b5, b6⟩, _, _⟩ := blk7 H4; go_simp; first | done | with_reducible rfl | (trace_state; fail))
      try simp only [Act.put, List.setIfInBounds_toArray, List.set_cons_zero, List.set_cons_succ]
      refine H_take (i := 29) (v := ?_) rfl (by kernel_rfl) (by kernel_rfl) (by kernel_rfl) (fun _ _ _ h => h) (by rfl) ?_ (by assumption) ?_
      rotate_left
      focus (intro w hSw; obtain ⟨⟨H1, H2, H3, H4⟩, hB⟩ := hSw; obtain ⟨⟨c0, c1, c2, c3, c4, c5, c6⟩, _, _⟩ := blk7 H1; obtain ⟨⟨d0, d1, d2, d3, d4, d5, d6⟩, _, _⟩ := blk7 H2; obtain ⟨⟨a0, a1, a2, a3, a4, a5, a6⟩, _, _⟩ := blk7 H3; obtain ⟨⟨b0, b1, b2, b3, b4, b5, b6⟩, _, _⟩ := blk7 H4; go_simp; first | done | with_reducible rfl | (trace_state; fail))
      try simp only [Act.put, List.setIfInBounds_toArray, List.set_cons_zero, List.set_cons_succ]
      refine H_take (i := 30) (v := ?_) rfl (by kernel_rfl) (by kernel_rfl) (by kernel_rfl) (fun _ _ _ h => h) (by rfl) ?_ (by assumption) ?_
      rotate_left
      focus (intro w hSw; obtain ⟨⟨H1, H2, H3, H4⟩, hB⟩ := hSw; obtain ⟨⟨c0, c1, c2, c3, c4, c5, c6⟩, _, _⟩ := blk7 H1; obtain ⟨⟨d0, d1, d2, d3, d4, d5, d6⟩, _, _⟩ := blk7 H2; obtain ⟨⟨a0, a1, a2, a3, a4, a5, a6⟩, _, _⟩ := blk7 H3; obtain ⟨⟨b0, b1, b2, b3, b4, b5, b6⟩, _, _⟩ := blk7 H4; go_simp; first | done | with_reducible rfl | (trace_state; fail))
      try simp only [Act.put, List.setIfInBounds_toArray, List.set_cons_zero, List.set_cons_succ]
      refine H_take (i := 31) (v := ?_) rfl (by kernel_rfl) (by kernel_rfl) (by kernel_rfl) (fun _ _ _ h => h) (by rfl) ?_ (by assumption) ?_
      rotate_left
      focus (intro w hSw; obtain ⟨⟨H1, H2, H3, H4⟩, hB⟩ := hSw; obtain ⟨⟨c0, c1, c2, c3, c4, c5, c6⟩, _, _⟩ := blk7 H1; obtain ⟨⟨d0, d1, d2, d3, d4, d5, d6⟩, _, _⟩ := blk7 H2; obtain ⟨⟨a0, a1, a2, a3, a4, a5, a6⟩, _, _⟩ := blk7 H3; obtain ⟨⟨b0, b1, b2, b3, b4, b5, b6⟩, _, _⟩ := blk7 H4; go_simp; first | done | with_reducible rfl | (trace_state; fail))
      try simp only [Act.put, List.setIfInBounds_toArray, List.set_cons_zero, List.set_cons_succ]
      refine H_take (i := 32) (v := ?_) rfl (by kernel_rfl) (by kernel_rfl) (by kernel_rfl) (fun _ _ _ h => h) (by rfl) ?_ (by assumption) ?_
      rotate_left
      focus (intro w hSw; obtain ⟨⟨H1, H2, H3, H4⟩, hB⟩ := hSw; obtain ⟨⟨c0, c1, c2, c3, c4, c5, c6⟩, _, _⟩ := blk7 H1; obtain ⟨⟨d0, d1, d2, d3, d4, d5, d6⟩, _, _⟩ := blk7 H2; obtain ⟨⟨a0, a1, a2, a3, a4, a5, a6⟩, _, _⟩ := blk7 H3; obtain ⟨⟨b0, b1, b2, b3, b4, b5, b6⟩, _, _⟩ := blk7 H4; go_simp; first | done | with_reducible rfl | (trace_state; fail))
      try simp only [Act.put, List.setIfInBounds_toArray, List.set_cons_zero, List.set_cons_succ]
      refine H_take (i := 33) (v := ?_) rfl (by kernel_rfl) (by kernel_rfl) (by kernel_rfl) (fun _ _ _ h => h) (by rfl) ?_ (by assumption) ?_
      rotate_left
      focus (intro w hSw; obtain ⟨⟨H1, H2, H3, H4⟩, hB⟩ := hSw; obtain ⟨⟨c0, c1, c2, c3, c4, c5, c6⟩, _, _⟩ := blk7 H1; obtain ⟨⟨d0, d1, d2, d3, d4, d5, d6⟩, _, _⟩ := blk7 H2; obtain ⟨⟨a0, a1, a2, a3, a4, a5, a6⟩, _, _⟩ := blk7 H3; obtain ⟨⟨b0, b1, b2, b3, b4, b5, b6⟩, _, _⟩ := blk7 H4; go_simp; first | done | with_reducible rfl | (trace_state; fail))
      try simp only [Act.put, List.setIfInBounds_toArray, List.set_cons_zero, List.set_cons_succ]
      refine H_take (i := 34) (v := ?_) rfl (by kernel_rfl) (by kernel_rfl) (by kernel_rfl) (fun _ _ _ h => h) (by rfl) ?_ (by assumption) ?_
      rotate_left
      focus (intro w hSw; obtain ⟨⟨H1, H2, H3, H4⟩, hB⟩ := hSw; obtain ⟨⟨c0, c1, c2, c3, c4, c5, c6⟩, _, _⟩ := blk7 H1; obtain ⟨⟨d0, d1, d2, d3, d4, d5, d6⟩, _, _⟩ := blk7 H2; obtain ⟨⟨a0, a1, a2, a3, a4, a5, a6⟩, _, _⟩ := blk7 H3; obtain ⟨⟨b0, b1, b2, b3, b4, b5, b6⟩, _, _⟩ := blk7 H4; go_simp; first | done | with_reducible rfl | (trace_state; fail))
      try simp only [Act.put, List.setIfInBounds_toArray, List.set_cons_zero, List.set_cons_succ]
      refine H_take (i := 35) (v := ?_) rfl (by kernel_rfl) (by kernel_rfl) (by kernel_rfl) (fun _ _ _ h => h) (by rfl) ?_ (by assumption) ?_
      rotate_left
      focus (intro w hSw; obtain ⟨⟨H1, H2, H3, H4⟩, hB⟩ := hSw; obtain ⟨⟨c0, c1, c2, c3, c4, c5, c6⟩, _, _⟩ := blk7 H1; obtain ⟨⟨d0, d1, d2, d3, d4, d5, d6⟩, _, _⟩ := blk7 H2; obtain ⟨⟨a0, a1, a2, a3, a4, a5, a6⟩, _, _⟩ := blk7 H3; obtain ⟨⟨b0, b1, b2, b3, b4, b5, b6⟩, _, _⟩ := blk7 H4; go_simp; first | done | with_reducible rfl | (trace_state; fail))
      try simp only [Act.put, List.setIfInBounds_toArray, List.set_cons_zero, List.set_cons_succ]
      refine H_call (i := 36) rfl (by kernel_rfl) (fun K hK => ?_)
      go_simp
      (go_at_call 15; (with_reducible refine Calls.mono (sSameClock_any A8 A9 q8 q9 cp8 cp9 zs zs i' d' 0 0 i' d' 0 0 false false false false _ (S11.out.later hHeld.2) (U11.out.later hHeld.2) hq8 hq9) ?_); rw [sameC_refl]; rintro e v1 ⟨rfl, hb_⟩)
      refine hK.out _ _ ?_ (fun hHeld => ?_)
      focus ((try dsimp only); (first | (exact b4_keep hHeld hb_) | (exact b4_drew HS0.out) | (exact HS0.out)))
      clear hK K
      try simp only [Act.put, List.setIfInBounds_toArray, List.set_cons_zero, List.set_cons_succ]
      refine H_take (i := 37) (v := ?_) rfl (by kernel_rfl) (by kernel_rfl) (by kernel_rfl) (fun _ _ _ h => h) (by rfl) ?_ (by assumption) ?_
      rotate_left
      focus (intro w hSw; obtain ⟨⟨H1, H2, H3, H4⟩, hB⟩ := hSw; obtain ⟨⟨c0, c1, c2, c3, c4, c5, c6⟩, _, _⟩ := blk7 H1; obtain ⟨⟨d0, d1, d2, d3, d4, d5, d6⟩, _, _⟩ := blk7 H2; obtain ⟨⟨a0, a1, a2, a3, a4, a5, a6⟩, _, _⟩ := blk7 H3; obtain ⟨⟨b0, b1, b2, b3, b4, b5, b6⟩, _, _⟩ := blk7 H4; go_simp; first | done | with_reducible rfl | (trace_state; fail))
      try simp only [Act.put, List.setIfInBounds_toArray, List.set_cons_zero, List.set_cons_succ]
      refine H_take (i := 38) (v := ?_) rfl (by kernel_rfl) (by kernel_rfl) (by kernel_rfl) (fun _ _ _ h => h) (by rfl) ?_ (by assumption) ?_
      rotate_left
      focus (intro w hSw; obtain ⟨⟨H1, H2, H3, H4⟩, hB⟩ := hSw; obtain ⟨⟨c0, c1, c2, c3, c4, c5, c6⟩, _, _⟩ := blk7 H1; obtain ⟨⟨d0, d1, d2, d3, d4, d5, d6⟩, _, _⟩ := blk7 H2; obtain ⟨⟨a0, a1, a2, a3, a4, a5, a6⟩, _, _⟩ := blk7 H3; obtain ⟨⟨b0, b1, b2, b3, b4, b5, b6⟩, _, _⟩ := blk7 H4; go_simp; first | done | with_reducible rfl | (trace_state; fail))
      try simp only [Act.put, List.setIfInBounds_toArray, List.set_cons_zero, List.set_cons_succ]
      refine H_take (i := 39) (v := ?_) rfl (by kernel_rfl) (by kernel_rfl) (by kernel_rfl) (fun _ _ _ h => h) (by rfl) ?_ (by assumption) ?_
      rotate_left
      focus (intro w hSw; obtain ⟨⟨H1, H2, H3, H4⟩, hB⟩ := hSw; obtain ⟨⟨c0, c1, c2, c3, c4, c5, c6⟩, _, _⟩ := blk7 H1; obtain ⟨⟨d0, d1, d2, d3, d4, d5, d6⟩, _, _⟩ := blk7 H2; obtain ⟨⟨a0, a1, a2, a3, a4, a5, a6⟩, _, _⟩ := blk7 H3; obtain ⟨⟨b0, b1, b2, b3, b4, b5, b6⟩, _, _⟩ := blk7 H4; go_simp; first | done | with_reducible rfl | (trace_state; fail))
      try simp only [Act.put, List.setIfInBounds_toArray, List.set_cons_zero, List.set_cons_succ]
      refine H_take (i := 40) (v := ?_) rfl (by kernel_rfl) (by kernel_rfl) (by kernel_rfl) (fun _ _ _ h => h) (by rfl) ?_ (by assumption) ?_
      rotate_left
      focus (intro w hSw; obtain ⟨⟨H1, H2, H3, H4⟩, hB⟩ := hSw; obtain ⟨⟨c0, c1, c2, c3, c4, c5, c6⟩, _, _⟩ := blk7 H1; obtain ⟨⟨d0, d1, d2, d3, d4, d5, d6⟩, _, _⟩ := blk7 H2; obtain ⟨⟨a0, a1, a2, a3, a4, a5, a6⟩, _, _⟩ := blk7 H3; obtain ⟨⟨b0, b1, b2, b3, b4, b5, b6⟩, _, _⟩ := blk7 H4; go_simp; first | done | with_reducible rfl | (trace_state; fail))
      try simp only [Act.put, List.setIfInBounds_toArray, List.set_cons_zero, List.set_cons_succ]
      refine H_take (i := 41) (v := ?_) rfl (by kernel_rfl) (by kernel_rfl) (by kernel_rfl) (fun _ _ _ h => h) (by rfl) ?_ (by assumption) ?_
      rotate_left
      focus (intro w hSw; obtain ⟨⟨H1, H2, H3, H4⟩, hB⟩ := hSw; obtain ⟨⟨c0, c1, c2, c3, c4, c5, c6⟩, _, _⟩ := blk7 H1; obtain ⟨⟨d0, d1, d2, d3, d4, d5, d6⟩, _, _⟩ := blk7 H2; obtain ⟨⟨a0, a1, a2, a3, a4, a5, a6⟩, _, _⟩ := blk7 H3; obtain ⟨⟨b0, b1, b2, b3, b4, b5, b6⟩, _, _⟩ := blk7 H4; go_simp; first | done | with_reducible rfl | (trace_state; fail))
      try simp only [Act.put, List.setIfInBounds_toArray, List.set_cons_zero, List.set_cons_succ]
      refine H_take (i := 43) (v := ?_) rfl (by kernel_rfl) (by kernel_rfl) (by kernel_rfl) (fun _ _ _ h => h) (by rfl) ?_ (by assumption) ?_
      rotate_left
      focus (intro w hSw; obtain ⟨⟨H1, H2, H3, H4⟩, hB⟩ := hSw; obtain ⟨⟨c0, c1, c2, c3, c4, c5, c6⟩, _, _⟩ := blk7 H1; obtain ⟨⟨d0, d1, d2, d3, d4, d5, d6⟩, _, _⟩ := blk7 H2; obtain ⟨⟨a0, a1, a2, a3, a4, a5, a6⟩, _, _⟩ := blk7 H3; obtain ⟨⟨b0, b1, b2, b3, b4, b5, b6⟩, _, _⟩ := blk7 H4; go_simp; first | done | with_reducible rfl | (trace_state; fail))
      try simp only [Act.put, List.setIfInBounds_toArray, List.set_cons_zero, List.set_cons_succ]
      refine H_take (i := 44) (v := ?_) rfl (by kernel_rfl) (by kernel_rfl) (by kernel_rfl) (fun _ _ _ h => h) (by rfl) ?_ (by assumption) ?_
      rotate_left
      focus (intro w hSw; obtain ⟨⟨H1, H2, H3, H4⟩, hB⟩ := hSw; obtain ⟨⟨c0, c1, c2, c3, c4, c5, c6⟩, _, _⟩ := blk7 H1; obtain ⟨⟨d0, d1, d2, d3, d4, d5, d6⟩, _, _⟩ := blk7 H2; obtain ⟨⟨a0, a1, a2, a3, a4, a5, a6⟩, _, _⟩ := blk7 H3; obtain ⟨⟨b0, b1, b2, b3, b4, b5, b6⟩, _, _⟩ := blk7 H4; go_simp; first | done | with_reducible rfl | (trace_state; fail))
      try simp only [Act.put, List.setIfInBounds_toArray, List.set_cons_zero, List.set_cons_succ]
      refine H_call (i := 42) rfl (by kernel_rfl) (fun K hK => ?_)
      go_simp
      (go_at_call 16; (with_reducible refine Calls.mono (SameClock_any Aa Ab na nb ca cb za zb ia da pa sa ib db pb sb ra fa rb fb _ (Sa11.out.later hHeld.2) (Sb11.out.later hHeld.2) (by omega) (by omega)) ?_); rw [HV.out]; rintro e v1 ⟨rfl, hb_⟩)
      refine hK.out _ _ ?_ (fun hHeld => ?_)
      focus ((try dsimp only); (first | (exact b4_keep hHeld hb_) | (exact b4_drew HS0.out) | (exact HS0.out)))
      clear hK K
      try simp only [Act.put, List.setIfInBounds_toArray, List.set_cons_zero, List.set_cons_succ]
      refine H_call (i := 45) rfl (by kernel_rfl) (fun K hK => ?_)
      go_simp
      (go_at_call 15; (with_reducible refine Calls.mono (sSameClock_any Aa Ab na nb ca cb za zb ia da pa sa ib db pb sb ra fa rb fb _ (Sa11.out.later hHeld.2) (Sb11.out.later hHeld.2) (by omega) (by omega)) ?_); rw [HV.out]; rintro e v1 ⟨rfl, hb_⟩)
      refine hK.out _ _ ?_ (fun hHeld => ?_)
      focus ((try dsimp only); (first | (exact b4_keep hHeld hb_) | (exact b4_drew HS0.out) | (exact HS0.out)))
      clear hK K
      try simp only [Act.put, List.setIfInBounds_toArray, List.set_cons_zero, List.set_cons_succ]
      refine H_take (i := 46) (v := ?_) rfl (by kernel_rfl) (by kernel_rfl) (by kernel_rfl) (fun _ _ _ h => h) (by rfl) ?_ (by assumption) ?_
      rotate_left
      focus (intro w hSw; obtain ⟨⟨H1, H2, H3, H4⟩, hB⟩ := hSw; obtain ⟨⟨c0, c1, c2, c3, c4, c5, c6⟩, _, _⟩ := blk7 H1; obtain ⟨⟨d0, d1, d2, d3, d4, d5, d6⟩, _, _⟩ := blk7 H2; obtain ⟨⟨a0, a1, a2, a3, a4, a5, a6⟩, _, _⟩ := blk7 H3; obtain ⟨⟨b0, b1, b2, b3, b4, b5, b6⟩, _, _⟩ := blk7 H4; go_simp; first | done | with_reducible rfl | (trace_state; fail))
      try simp only [Act.put, List.setIfInBounds_toArray, List.set_cons_zero, List.set_cons_succ]
      refine H_take (i := 47) (v := ?_) rfl (by kernel_rfl) (by kernel_rfl) (by kernel_rfl) (fun _ _ _ h => h) (by rfl) ?_ (by assumption) ?_
      rotate_left
      focus (intro w hSw; obtain ⟨⟨H1, H2, H3, H4⟩, hB⟩ := hSw; obtain ⟨⟨c0, c1, c2, c3, c4, c5, c6⟩, _, _⟩ := blk7 H1; obtain ⟨⟨d0, d1, d2, d3, d4, d5, d6⟩, _, _⟩ := blk7 H2; obtain ⟨⟨a0, a1, a2, a3, a4, a5, a6⟩, _, _⟩ := blk7 H3; obtain ⟨⟨b0, b1, b2, b3, b4, b5, b6⟩, _, _⟩ := blk7 H4; go_simp; first | done | with_reducible rfl | (trace_state; fail))
      try simp only [Act.put, List.setIfInBounds_toArray, List.set_cons_zero, List.set_cons_succ]
      refine wpAnyH_done (by kernel_rfl) ?_ _
      go_wp2_with fail
      go_meet
      exact ⟨rfl, rfl, rfl, rfl, rfl, rfl, rfl, hHeld.2⟩
    · have hz0 : (t.toList == ({ data := #[] } : ByteArray).toList) = true := by rw [hte]; exact beq_self_eq_true _
      have hz1 : (t.toList == []) = true := by rw [hte, ByteArray.toList_eq]; rfl
      clear hte
      refine wp_region_held_drew (S := (fun W => (Blk W w8.heap.size 33 #[.slice A8 q8 cp8, .int .i64 i', .int .i64 d', .int .i64 0, .int .i64 0, .bool false, .bool false] ∧ Blk W w9.heap.size 33 #[.slice A9 q9 cp9, .int .i64 i', .int .i64 d', .int .i64 0, .int .i64 0, .bool false, .bool false] ∧ Blk W w10.heap.size 33 #[.slice Aa na ca, .int .i64 ia, .int .i64 da, .int .i64 pa, .int .i64 sa, .bool ra, .bool fa] ∧ Blk W (w10.heap.size + 1) 33 #[.slice Ab nb cb, .int .i64 ib, .int .i64 db, .int .i64 pb, .int .i64 sb, .bool rb, .bool fb]) ∧ Below w11.heap.size w11 W)) (by kernel_rfl) ?_ (fun hHeld => ?_)
      focus ((try dsimp only); (first | (exact b4_keep hHeld hb_) | (exact b4_drew HS0.out) | (exact HS0.out)))
      refine H_take (i := 0) (v := ?_) rfl (by kernel_rfl) (by kernel_rfl) (by kernel_rfl) (fun _ _ _ h => h) (by rfl) ?_ (by assumption) ?_
      rotate_left
      focus (intro w hSw; obtain ⟨⟨H1, H2, H3, H4⟩, hB⟩ := hSw; obtain ⟨⟨c0, c1, c2, c3, c4, c5, c6⟩, _, _⟩ := blk7 H1; obtain ⟨⟨d0, d1, d2, d3, d4, d5, d6⟩, _, _⟩ := blk7 H2; obtain ⟨⟨a0, a1, a2, a3, a4, a5, a6⟩, _, _⟩ := blk7 H3; obtain ⟨⟨b0, b1, b2, b3, b4, b5, b6⟩, _, _⟩ := blk7 H4; go_simp; first | done | with_reducible rfl | (trace_state; fail))
      try simp only [Act.put, List.setIfInBounds_toArray, List.set_cons_zero, List.set_cons_succ]
      refine H_take (i := 1) (v := ?_) rfl (by kernel_rfl) (by kernel_rfl) (by kernel_rfl) (fun _ _ _ h => h) (by rfl) ?_ (by assumption) ?_
      rotate_left
      focus (intro w hSw; obtain ⟨⟨H1, H2, H3, H4⟩, hB⟩ := hSw; obtain ⟨⟨c0, c1, c2, c3, c4, c5, c6⟩, _, _⟩ := blk7 H1; obtain ⟨⟨d0, d1, d2, d3, d4, d5, d6⟩, _, _⟩ := blk7 H2; obtain ⟨⟨a0, a1, a2, a3, a4, a5, a6⟩, _, _⟩ := blk7 H3; obtain ⟨⟨b0, b1, b2, b3, b4, b5, b6⟩, _, _⟩ := blk7 H4; go_simp; first | done | with_reducible rfl | (trace_state; fail))
      try simp only [Act.put, List.setIfInBounds_toArray, List.set_cons_zero, List.set_cons_succ]
      refine H_call (i := 2) rfl (by kernel_rfl) (fun K hK => ?_)
      go_simp
      (go_at_call 14; (with_reducible refine Calls.mono (sTimeText_any nn t HTT.out _) ?_); rintro e v1 ⟨rfl, hb_⟩)
      refine hK.out _ _ ?_ (fun hHeld => ?_)
      focus ((try dsimp only); (first | (exact b4_keep hHeld hb_) | (exact b4_drew HS0.out) | (exact HS0.out)))
      clear hK K
      try simp only [Act.put, List.setIfInBounds_toArray, List.set_cons_zero, List.set_cons_succ]
      refine H_take (i := 3) (v := ?_) rfl (by kernel_rfl) (by kernel_rfl) (by kernel_rfl) (fun _ _ _ h => h) (by rfl) ?_ (by assumption) ?_
      rotate_left
      focus (intro w hSw; obtain ⟨⟨H1, H2, H3, H4⟩, hB⟩ := hSw; obtain ⟨⟨c0, c1, c2, c3, c4, c5, c6⟩, _, _⟩ := blk7 H1; obtain ⟨⟨d0, d1, d2, d3, d4, d5, d6⟩, _, _⟩ := blk7 H2; obtain ⟨⟨a0, a1, a2, a3, a4, a5, a6⟩, _, _⟩ := blk7 H3; obtain ⟨⟨b0, b1, b2, b3, b4, b5, b6⟩, _, _⟩ := blk7 H4; go_simp; first | done | with_reducible rfl | (trace_state; fail))
      try simp only [Act.put, List.setIfInBounds_toArray, List.set_cons_zero, List.set_cons_succ]
      refine H_take (i := 4) (v := ?_) rfl (by kernel_rfl) (by kernel_rfl) (by kernel_rfl) (fun _ _ _ h => h) (by rfl) ?_ (by assumption) ?_
      rotate_left
      focus (intro w hSw; obtain ⟨⟨H1, H2, H3, H4⟩, hB⟩ := hSw; obtain ⟨⟨c0, c1, c2, c3, c4, c5, c6⟩, _, _⟩ := blk7 H1; obtain ⟨⟨d0, d1, d2, d3, d4, d5, d6⟩, _, _⟩ := blk7 H2; obtain ⟨⟨a0, a1, a2, a3, a4, a5, a6⟩, _, _⟩ := blk7 H3; obtain ⟨⟨b0, b1, b2, b3, b4, b5, b6⟩, _, _⟩ := blk7 H4; go_simp; first | done | with_reducible rfl | (trace_state; fail))
      try simp only [Act.put, List.setIfInBounds_toArray, List.set_cons_zero, List.set_cons_succ]
      refine H_take (i := 5) (v := ?_) rfl (by kernel_rfl) (by kernel_rfl) (by kernel_rfl) (fun _ _ _ h => h) (by rfl) ?_ (by assumption) ?_
      rotate_left
      focus (intro w hSw; obtain ⟨⟨H1, H2, H3, H4⟩, hB⟩ := hSw; obtain ⟨⟨c0, c1, c2, c3, c4, c5, c6⟩, _, _⟩ := blk7 H1; obtain ⟨⟨d0, d1, d2, d3, d4, d5, d6⟩, _, _⟩ := blk7 H2; obtain ⟨⟨a0, a1, a2, a3, a4, a5, a6⟩, _, _⟩ := blk7 H3; obtain ⟨⟨b0, b1, b2, b3, b4, b5, b6⟩, _, _⟩ := blk7 H4; go_simp; first | done | with_reducible rfl | (trace_state; fail))
      try simp only [Act.put, List.setIfInBounds_toArray, List.set_cons_zero, List.set_cons_succ]
      refine H_take (i := 6) (v := ?_) rfl (by kernel_rfl) (by kernel_rfl) (by kernel_rfl) (fun _ _ _ h => h) (by rfl) ?_ (by assumption) ?_
      rotate_left
      focus (intro w hSw; obtain ⟨⟨H1, H2, H3, H4⟩, hB⟩ := hSw; obtain ⟨⟨c0, c1, c2, c3, c4, c5, c6⟩, _, _⟩ := blk7 H1; obtain ⟨⟨d0, d1, d2, d3, d4, d5, d6⟩, _, _⟩ := blk7 H2; obtain ⟨⟨a0, a1, a2, a3, a4, a5, a6⟩, _, _⟩ := blk7 H3; obtain ⟨⟨b0, b1, b2, b3, b4, b5, b6⟩, _, _⟩ := blk7 H4; go_simp; first | done | with_reducible rfl | (trace_state; fail))
      try simp only [Act.put, List.setIfInBounds_toArray, List.set_cons_zero, List.set_cons_succ]
      refine H_take (i := 7) (v := ?_) rfl (by kernel_rfl) (by kernel_rfl) (by kernel_rfl) (fun _ _ _ h => h) (by rfl) ?_ (by assumption) ?_
      rotate_left
      focus (intro w hSw; obtain ⟨⟨H1, H2, H3, H4⟩, hB⟩ := hSw; obtain ⟨⟨c0, c1, c2, c3, c4, c5, c6⟩, _, _⟩ := blk7 H1; obtain ⟨⟨d0, d1, d2, d3, d4, d5, d6⟩, _, _⟩ := blk7 H2; obtain ⟨⟨a0, a1, a2, a3, a4, a5, a6⟩, _, _⟩ := blk7 H3; obtain ⟨⟨b0, b1, b2, b3, b4, b5, b6⟩, _, _⟩ := blk7 H4; go_simp; first | done | with_reducible rfl | (trace_state; fail))
      try simp only [Act.put, List.setIfInBounds_toArray, List.set_cons_zero, List.set_cons_succ]
      refine H_take (i := 8) (v := ?_) rfl (by kernel_rfl) (by kernel_rfl) (by kernel_rfl) (fun _ _ _ h => h) (by rfl) ?_ (by assumption) ?_
      rotate_left
      focus (intro w hSw; obtain ⟨⟨H1, H2, H3, H4⟩, hB⟩ := hSw; obtain ⟨⟨c0, c1, c2, c3, c4, c5, c6⟩, _, _⟩ := blk7 H1; obtain ⟨⟨d0, d1, d2, d3, d4, d5, d6⟩, _, _⟩ := blk7 H2; obtain ⟨⟨a0, a1, a2, a3, a4, a5, a6⟩, _, _⟩ := blk7 H3; obtain ⟨⟨b0, b1, b2, b3, b4, b5, b6⟩, _, _⟩ := blk7 H4; go_simp; first | done | with_reducible rfl | (trace_state; fail))
      try simp only [Act.put, List.setIfInBounds_toArray, List.set_cons_zero, List.set_cons_succ]
      refine H_take (i := 9) (v := ?_) rfl (by kernel_rfl) (by kernel_rfl) (by kernel_rfl) (fun _ _ _ h => h) (by rfl) ?_ (by assumption) ?_
      rotate_left
      focus (intro w hSw; obtain ⟨⟨H1, H2, H3, H4⟩, hB⟩ := hSw; obtain ⟨⟨c0, c1, c2, c3, c4, c5, c6⟩, _, _⟩ := blk7 H1; obtain ⟨⟨d0, d1, d2, d3, d4, d5, d6⟩, _, _⟩ := blk7 H2; obtain ⟨⟨a0, a1, a2, a3, a4, a5, a6⟩, _, _⟩ := blk7 H3; obtain ⟨⟨b0, b1, b2, b3, b4, b5, b6⟩, _, _⟩ := blk7 H4; go_simp; first | done | with_reducible rfl | (trace_state; fail))
      try simp only [Act.put, List.setIfInBounds_toArray, List.set_cons_zero, List.set_cons_succ]
      refine H_take (i := 10) (v := ?_) rfl (by kernel_rfl) (by kernel_rfl) (by kernel_rfl) (fun _ _ _ h => h) (by rfl) ?_ (by assumption) ?_
      rotate_left
      focus (intro w hSw; obtain ⟨⟨H1, H2, H3, H4⟩, hB⟩ := hSw; obtain ⟨⟨c0, c1, c2, c3, c4, c5, c6⟩, _, _⟩ := blk7 H1; obtain ⟨⟨d0, d1, d2, d3, d4, d5, d6⟩, _, _⟩ := blk7 H2; obtain ⟨⟨a0, a1, a2, a3, a4, a5, a6⟩, _, _⟩ := blk7 H3; obtain ⟨⟨b0, b1, b2, b3, b4, b5, b6⟩, _, _⟩ := blk7 H4; go_simp; first | done | with_reducible rfl | (trace_state; fail))
      try simp only [Act.put, List.setIfInBounds_toArray, List.set_cons_zero, List.set_cons_succ]
      refine H_take (i := 11) (v := ?_) rfl (by kernel_rfl) (by kernel_rfl) (by kernel_rfl) (fun _ _ _ h => h) (by rfl) ?_ (by assumption) ?_
      rotate_left
      focus (intro w hSw; obtain ⟨⟨H1, H2, H3, H4⟩, hB⟩ := hSw; obtain ⟨⟨c0, c1, c2, c3, c4, c5, c6⟩, _, _⟩ := blk7 H1; obtain ⟨⟨d0, d1, d2, d3, d4, d5, d6⟩, _, _⟩ := blk7 H2; obtain ⟨⟨a0, a1, a2, a3, a4, a5, a6⟩, _, _⟩ := blk7 H3; obtain ⟨⟨b0, b1, b2, b3, b4, b5, b6⟩, _, _⟩ := blk7 H4; go_simp; first | done | with_reducible rfl | (trace_state; fail))
      try simp only [Act.put, List.setIfInBounds_toArray, List.set_cons_zero, List.set_cons_succ]
      refine H_take (i := 12) (v := ?_) rfl (by kernel_rfl) (by kernel_rfl) (by kernel_rfl) (fun _ _ _ h => h) (by rfl) ?_ (by assumption) ?_
      rotate_left
      focus (intro w hSw; obtain ⟨⟨H1, H2, H3, H4⟩, hB⟩ := hSw; obtain ⟨⟨c0, c1, c2, c3, c4, c5, c6⟩, _, _⟩ := blk7 H1; obtain ⟨⟨d0, d1, d2, d3, d4, d5, d6⟩, _, _⟩ := blk7 H2; obtain ⟨⟨a0, a1, a2, a3, a4, a5, a6⟩, _, _⟩ := blk7 H3; obtain ⟨⟨b0, b1, b2, b3, b4, b5, b6⟩, _, _⟩ := blk7 H4; go_simp; first | done | with_reducible rfl | (trace_state; fail))
      try simp only [Act.put, List.setIfInBounds_toArray, List.set_cons_zero, List.set_cons_succ]
      refine H_pass (i := 13) rfl (by kernel_rfl) (by kernel_rfl) (by kernel_rfl) (fun _ _ _ h => h) (by rfl) (by assumption) ?_
      try simp only [Act.put, List.setIfInBounds_toArray, List.set_cons_zero, List.set_cons_succ]
      refine H_pass (i := 14) rfl (by kernel_rfl) (by kernel_rfl) (by kernel_rfl) (fun _ _ _ h => h) (by rfl) (by assumption) ?_
      try simp only [Act.put, List.setIfInBounds_toArray, List.set_cons_zero, List.set_cons_succ]
      refine H_pass (i := 15) rfl (by kernel_rfl) (by kernel_rfl) (by kernel_rfl) (fun _ _ _ h => h) (by rfl) (by assumption) ?_
      try simp only [Act.put, List.setIfInBounds_toArray, List.set_cons_zero, List.set_cons_succ]
      refine H_take (i := 16) (v := ?_) rfl (by kernel_rfl) (by kernel_rfl) (by kernel_rfl) (fun _ _ _ h => h) (by rfl) ?_ (by assumption) ?_
      rotate_left
      focus (intro w hSw; obtain ⟨⟨H1, H2, H3, H4⟩, hB⟩ := hSw; obtain ⟨⟨c0, c1, c2, c3, c4, c5, c6⟩, _, _⟩ := blk7 H1; obtain ⟨⟨d0, d1, d2, d3, d4, d5, d6⟩, _, _⟩ := blk7 H2; obtain ⟨⟨a0, a1, a2, a3, a4, a5, a6⟩, _, _⟩ := blk7 H3; obtain ⟨⟨b0, b1, b2, b3, b4, b5, b6⟩, _, _⟩ := blk7 H4; go_simp; first | done | with_reducible rfl | (trace_state; fail))
      try simp only [Act.put, List.setIfInBounds_toArray, List.set_cons_zero, List.set_cons_succ]
      refine H_take (i := 17) (v := ?_) rfl (by kernel_rfl) (by kernel_rfl) (by kernel_rfl) (fun _ _ _ h => h) (by rfl) ?_ (by assumption) ?_
      rotate_left
      focus (intro w hSw; obtain ⟨⟨H1, H2, H3, H4⟩, hB⟩ := hSw; obtain ⟨⟨c0, c1, c2, c3, c4, c5, c6⟩, _, _⟩ := blk7 H1; obtain ⟨⟨d0, d1, d2, d3, d4, d5, d6⟩, _, _⟩ := blk7 H2; obtain ⟨⟨a0, a1, a2, a3, a4, a5, a6⟩, _, _⟩ := blk7 H3; obtain ⟨⟨b0, b1, b2, b3, b4, b5, b6⟩, _, _⟩ := blk7 H4; go_simp; first | done | with_reducible rfl | (trace_state; fail))
      try simp only [Act.put, List.setIfInBounds_toArray, List.set_cons_zero, List.set_cons_succ]
      refine H_take (i := 18) (v := ?_) rfl (by kernel_rfl) (by kernel_rfl) (by kernel_rfl) (fun _ _ _ h => h) (by rfl) ?_ (by assumption) ?_
      rotate_left
      focus (intro w hSw; obtain ⟨⟨H1, H2, H3, H4⟩, hB⟩ := hSw; obtain ⟨⟨c0, c1, c2, c3, c4, c5, c6⟩, _, _⟩ := blk7 H1; obtain ⟨⟨d0, d1, d2, d3, d4, d5, d6⟩, _, _⟩ := blk7 H2; obtain ⟨⟨a0, a1, a2, a3, a4, a5, a6⟩, _, _⟩ := blk7 H3; obtain ⟨⟨b0, b1, b2, b3, b4, b5, b6⟩, _, _⟩ := blk7 H4; go_simp; first | done | with_reducible rfl | (trace_state; fail))
      try simp only [Act.put, List.setIfInBounds_toArray, List.set_cons_zero, List.set_cons_succ]
      refine H_take (i := 19) (v := ?_) rfl (by kernel_rfl) (by kernel_rfl) (by kernel_rfl) (fun _ _ _ h => h) (by rfl) ?_ (by assumption) ?_
      rotate_left
      focus (intro w hSw; obtain ⟨⟨H1, H2, H3, H4⟩, hB⟩ := hSw; obtain ⟨⟨c0, c1, c2, c3, c4, c5, c6⟩, _, _⟩ := blk7 H1; obtain ⟨⟨d0, d1, d2, d3, d4, d5, d6⟩, _, _⟩ := blk7 H2; obtain ⟨⟨a0, a1, a2, a3, a4, a5, a6⟩, _, _⟩ := blk7 H3; obtain ⟨⟨b0, b1, b2, b3, b4, b5, b6⟩, _, _⟩ := blk7 H4; go_simp; first | done | with_reducible rfl | (trace_state; fail))
      try simp only [Act.put, List.setIfInBounds_toArray, List.set_cons_zero, List.set_cons_succ]
      refine H_take (i := 20) (v := ?_) rfl (by kernel_rfl) (by kernel_rfl) (by kernel_rfl) (fun _ _ _ h => h) (by rfl) ?_ (by assumption) ?_
      rotate_left
      focus (intro w hSw; obtain ⟨⟨H1, H2, H3, H4⟩, hB⟩ := hSw; obtain ⟨⟨c0, c1, c2, c3, c4, c5, c6⟩, _, _⟩ := blk7 H1; obtain ⟨⟨d0, d1, d2, d3, d4, d5, d6⟩, _, _⟩ := blk7 H2; obtain ⟨⟨a0, a1, a2, a3, a4, a5, a6⟩, _, _⟩ := blk7 H3; obtain ⟨⟨b0, b1, b2, b3, b4, b5, b6⟩, _, _⟩ := blk7 H4; go_simp; first | done | with_reducible rfl | (trace_state; fail))
      try simp only [Act.put, List.setIfInBounds_toArray, List.set_cons_zero, List.set_cons_succ]
      refine H_take (i := 21) (v := ?_) rfl (by kernel_rfl) (by kernel_rfl) (by kernel_rfl) (fun _ _ _ h => h) (by rfl) ?_ (by assumption) ?_
      rotate_left
      focus (intro w hSw; obtain ⟨⟨H1, H2, H3, H4⟩, hB⟩ := hSw; obtain ⟨⟨c0, c1, c2, c3, c4, c5, c6⟩, _, _⟩ := blk7 H1; obtain ⟨⟨d0, d1, d2, d3, d4, d5, d6⟩, _, _⟩ := blk7 H2; obtain ⟨⟨a0, a1, a2, a3, a4, a5, a6⟩, _, _⟩ := blk7 H3; obtain ⟨⟨b0, b1, b2, b3, b4, b5, b6⟩, _, _⟩ := blk7 H4; go_simp; first | done | with_reducible rfl | (trace_state; fail))
      try simp only [Act.put, List.setIfInBounds_toArray, List.set_cons_zero, List.set_cons_succ]
      refine H_take (i := 22) (v := ?_) rfl (by kernel_rfl) (by kernel_rfl) (by kernel_rfl) (fun _ _ _ h => h) (by rfl) ?_ (by assumption) ?_
      rotate_left
      focus (intro w hSw; obtain ⟨⟨H1, H2, H3, H4⟩, hB⟩ := hSw; obtain ⟨⟨c0, c1, c2, c3, c4, c5, c6⟩, _, _⟩ := blk7 H1; obtain ⟨⟨d0, d1, d2, d3, d4, d5, d6⟩, _, _⟩ := blk7 H2; obtain ⟨⟨a0, a1, a2, a3, a4, a5, a6⟩, _, _⟩ := blk7 H3; obtain ⟨⟨b0, b1, b2, b3, b4, b5, b6⟩, _, _⟩ := blk7 H4; go_simp; first | done | with_reducible rfl | (trace_state; fail))
      try simp only [Act.put, List.setIfInBounds_toArray, List.set_cons_zero, List.set_cons_succ]
      refine H_take (i := 23) (v := ?_) rfl (by kernel_rfl) (by kernel_rfl) (by kernel_rfl) (fun _ _ _ h => h) (by rfl) ?_ (by assumption) ?_
      rotate_left
      focus (intro w hSw; obtain ⟨⟨H1, H2, H3, H4⟩, hB⟩ := hSw; obtain ⟨⟨c0, c1, c2, c3, c4, c5, c6⟩, _, _⟩ := blk7 H1; obtain ⟨⟨d0, d1, d2, d3, d4, d5, d6⟩, _, _⟩ := blk7 H2; obtain ⟨⟨a0, a1, a2, a3, a4, a5, a6⟩, _, _⟩ := blk7 H3; obtain ⟨⟨b0, b1, b2, b3, b4, b5, b6⟩, _, _⟩ := blk7 H4; go_simp; first | done | with_reducible rfl | (trace_state; fail))
      try simp only [Act.put, List.setIfInBounds_toArray, List.set_cons_zero, List.set_cons_succ]
      refine H_take (i := 24) (v := ?_) rfl (by kernel_rfl) (by kernel_rfl) (by kernel_rfl) (fun _ _ _ h => h) (by rfl) ?_ (by assumption) ?_
      rotate_left
      focus (intro w hSw; obtain ⟨⟨H1, H2, H3, H4⟩, hB⟩ := hSw; obtain ⟨⟨c0, c1, c2, c3, c4, c5, c6⟩, _, _⟩ := blk7 H1; obtain ⟨⟨d0, d1, d2, d3, d4, d5, d6⟩, _, _⟩ := blk7 H2; obtain ⟨⟨a0, a1, a2, a3, a4, a5, a6⟩, _, _⟩ := blk7 H3; obtain ⟨⟨b0, b1, b2, b3, b4, b5, b6⟩, _, _⟩ := blk7 H4; go_simp; first | done | with_reducible rfl | (trace_state; fail))
      try simp only [Act.put, List.setIfInBounds_toArray, List.set_cons_zero, List.set_cons_succ]
      refine H_take (i := 25) (v := ?_) rfl (by kernel_rfl) (by kernel_rfl) (by kernel_rfl) (fun _ _ _ h => h) (by rfl) ?_ (by assumption) ?_
      rotate_left
      focus (intro w hSw; obtain ⟨⟨H1, H2, H3, H4⟩, hB⟩ := hSw; obtain ⟨⟨c0, c1, c2, c3, c4, c5, c6⟩, _, _⟩ := blk7 H1; obtain ⟨⟨d0, d1, d2, d3, d4, d5, d6⟩, _, _⟩ := blk7 H2; obtain ⟨⟨a0, a1, a2, a3, a4, a5, a6⟩, _, _⟩ := blk7 H3; obtain ⟨⟨b0, b1, b2, b3, b4, b5, b6⟩, _, _⟩ := blk7 H4; go_simp; first | done | with_reducible rfl | (trace_state; fail))
      try simp only [Act.put, List.setIfInBounds_toArray, List.set_cons_zero, List.set_cons_succ]
      refine H_take (i := 26) (v := ?_) rfl (by kernel_rfl) (by kernel_rfl) (by kernel_rfl) (fun _ _ _ h => h) (by rfl) ?_ (by assumption) ?_
      rotate_left
      focus (intro w hSw; obtain ⟨⟨H1, H2, H3, H4⟩, hB⟩ := hSw; obtain ⟨⟨c0, c1, c2, c3, c4, c5, c6⟩, _, _⟩ := blk7 H1; obtain ⟨⟨d0, d1, d2, d3, d4, d5, d6⟩, _, _⟩ := blk7 H2; obtain ⟨⟨a0, a1, a2, a3, a4, a5, a6⟩, _, _⟩ := blk7 H3; obtain ⟨⟨b0, b1, b2, b3, b4, b5, b6⟩, _, _⟩ := blk7 H4; go_simp; first | done | with_reducible rfl | (trace_state; fail))
      try simp only [Act.put, List.setIfInBounds_toArray, List.set_cons_zero, List.set_cons_succ]
      refine H_take (i := 27) (v := ?_) rfl (by kernel_rfl) (by kernel_rfl) (by kernel_rfl) (fun _ _ _ h => h) (by rfl) ?_ (by assumption) ?_
      rotate_left
      focus (intro w hSw; obtain ⟨⟨H1, H2, H3, H4⟩, hB⟩ := hSw; obtain ⟨⟨c0, c1, c2, c3, c4, c5, c6⟩, _, _⟩ := blk7 H1; obtain ⟨⟨d0, d1, d2, d3, d4, d5, d6⟩, _, _⟩ := blk7 H2; obtain ⟨⟨a0, a1, a2, a3, a4, a5, a6⟩, _, _⟩ := blk7 H3; obtain ⟨⟨b0, b1, b2, b3, b4, b5, b6⟩, _, _⟩ := blk7 H4; go_simp; first | done | with_reducible rfl | (trace_state; fail))
      try simp only [Act.put, List.setIfInBounds_toArray, List.set_cons_zero, List.set_cons_succ]
      refine H_take (i := 28) (v := ?_) rfl (by kernel_rfl) (by kernel_rfl) (by kernel_rfl) (fun _ _ _ h => h) (by rfl) ?_ (by assumption) ?_
      rotate_left
      focus (intro w hSw; obtain ⟨⟨H1, H2, H3, H4⟩, hB⟩ := hSw; obtain ⟨⟨c0, c1, c2, c3, c4, c5, c6⟩, _, _⟩ := blk7 H1; obtain ⟨⟨d0, d1, d2, d3, d4, d5, d6⟩, _, _⟩ := blk7 H2; obtain ⟨⟨a0, a1, a2, a3, a4, a5, a6⟩, _, _⟩ := blk7 H3; obtain ⟨⟨b0, b1, b2, b3, b4, b5, b6⟩, _, _⟩ := blk7 H4; go_simp; first | done | with_reducible rfl | (trace_state; fail))
      try simp only [Act.put, List.setIfInBounds_toArray, List.set_cons_zero, List.set_cons_succ]
      refine H_take (i := 29) (v := ?_) rfl (by kernel_rfl) (by kernel_rfl) (by kernel_rfl) (fun _ _ _ h => h) (by rfl) ?_ (by assumption) ?_
      rotate_left
      focus (intro w hSw; obtain ⟨⟨H1, H2, H3, H4⟩, hB⟩ := hSw; obtain ⟨⟨c0, c1, c2, c3, c4, c5, c6⟩, _, _⟩ := blk7 H1; obtain ⟨⟨d0, d1, d2, d3, d4, d5, d6⟩, _, _⟩ := blk7 H2; obtain ⟨⟨a0, a1, a2, a3, a4, a5, a6⟩, _, _⟩ := blk7 H3; obtain ⟨⟨b0, b1, b2, b3, b4, b5, b6⟩, _, _⟩ := blk7 H4; go_simp; first | done | with_reducible rfl | (trace_state; fail))
      try simp only [Act.put, List.setIfInBounds_toArray, List.set_cons_zero, List.set_cons_succ]
      refine H_take (i := 30) (v := ?_) rfl (by kernel_rfl) (by kernel_rfl) (by kernel_rfl) (fun _ _ _ h => h) (by rfl) ?_ (by assumption) ?_
      rotate_left
      focus (intro w hSw; obtain ⟨⟨H1, H2, H3, H4⟩, hB⟩ := hSw; obtain ⟨⟨c0, c1, c2, c3, c4, c5, c6⟩, _, _⟩ := blk7 H1; obtain ⟨⟨d0, d1, d2, d3, d4, d5, d6⟩, _, _⟩ := blk7 H2; obtain ⟨⟨a0, a1, a2, a3, a4, a5, a6⟩, _, _⟩ := blk7 H3; obtain ⟨⟨b0, b1, b2, b3, b4, b5, b6⟩, _, _⟩ := blk7 H4; go_simp; first | done | with_reducible rfl | (trace_state; fail))
      try simp only [Act.put, List.setIfInBounds_toArray, List.set_cons_zero, List.set_cons_succ]
      refine H_take (i := 31) (v := ?_) rfl (by kernel_rfl) (by kernel_rfl) (by kernel_rfl) (fun _ _ _ h => h) (by rfl) ?_ (by assumption) ?_
      rotate_left
      focus (intro w hSw; obtain ⟨⟨H1, H2, H3, H4⟩, hB⟩ := hSw; obtain ⟨⟨c0, c1, c2, c3, c4, c5, c6⟩, _, _⟩ := blk7 H1; obtain ⟨⟨d0, d1, d2, d3, d4, d5, d6⟩, _, _⟩ := blk7 H2; obtain ⟨⟨a0, a1, a2, a3, a4, a5, a6⟩, _, _⟩ := blk7 H3; obtain ⟨⟨b0, b1, b2, b3, b4, b5, b6⟩, _, _⟩ := blk7 H4; go_simp; first | done | with_reducible rfl | (trace_state; fail))
      try simp only [Act.put, List.setIfInBounds_toArray, List.set_cons_zero, List.set_cons_succ]
      refine H_take (i := 32) (v := ?_) rfl (by kernel_rfl) (by kernel_rfl) (by kernel_rfl) (fun _ _ _ h => h) (by rfl) ?_ (by assumption) ?_
      rotate_left
      focus (intro w hSw; obtain ⟨⟨H1, H2, H3, H4⟩, hB⟩ := hSw; obtain ⟨⟨c0, c1, c2, c3, c4, c5, c6⟩, _, _⟩ := blk7 H1; obtain ⟨⟨d0, d1, d2, d3, d4, d5, d6⟩, _, _⟩ := blk7 H2; obtain ⟨⟨a0, a1, a2, a3, a4, a5, a6⟩, _, _⟩ := blk7 H3; obtain ⟨⟨b0, b1, b2, b3, b4, b5, b6⟩, _, _⟩ := blk7 H4; go_simp; first | done | with_reducible rfl | (trace_state; fail))
      try simp only [Act.put, List.setIfInBounds_toArray, List.set_cons_zero, List.set_cons_succ]
      refine H_take (i := 33) (v := ?_) rfl (by kernel_rfl) (by kernel_rfl) (by kernel_rfl) (fun _ _ _ h => h) (by rfl) ?_ (by assumption) ?_
      rotate_left
      focus (intro w hSw; obtain ⟨⟨H1, H2, H3, H4⟩, hB⟩ := hSw; obtain ⟨⟨c0, c1, c2, c3, c4, c5, c6⟩, _, _⟩ := blk7 H1; obtain ⟨⟨d0, d1, d2, d3, d4, d5, d6⟩, _, _⟩ := blk7 H2; obtain ⟨⟨a0, a1, a2, a3, a4, a5, a6⟩, _, _⟩ := blk7 H3; obtain ⟨⟨b0, b1, b2, b3, b4, b5, b6⟩, _, _⟩ := blk7 H4; go_simp; first | done | with_reducible rfl | (trace_state; fail))
      try simp only [Act.put, List.setIfInBounds_toArray, List.set_cons_zero, List.set_cons_succ]
      refine H_take (i := 34) (v := ?_) rfl (by kernel_rfl) (by kernel_rfl) (by kernel_rfl) (fun _ _ _ h => h) (by rfl) ?_ (by assumption) ?_
      rotate_left
      focus (intro w hSw; obtain ⟨⟨H1, H2, H3, H4⟩, hB⟩ := hSw; obtain ⟨⟨c0, c1, c2, c3, c4, c5, c6⟩, _, _⟩ := blk7 H1; obtain ⟨⟨d0, d1, d2, d3, d4, d5, d6⟩, _, _⟩ := blk7 H2; obtain ⟨⟨a0, a1, a2, a3, a4, a5, a6⟩, _, _⟩ := blk7 H3; obtain ⟨⟨b0, b1, b2, b3, b4, b5, b6⟩, _, _⟩ := blk7 H4; go_simp; first | done | with_reducible rfl | (trace_state; fail))
      try simp only [Act.put, List.setIfInBounds_toArray, List.set_cons_zero, List.set_cons_succ]
      refine H_take (i := 35) (v := ?_) rfl (by kernel_rfl) (by kernel_rfl) (by kernel_rfl) (fun _ _ _ h => h) (by rfl) ?_ (by assumption) ?_
      rotate_left
      focus (intro w hSw; obtain ⟨⟨H1, H2, H3, H4⟩, hB⟩ := hSw; obtain ⟨⟨c0, c1, c2, c3, c4, c5, c6⟩, _, _⟩ := blk7 H1; obtain ⟨⟨d0, d1, d2, d3, d4, d5, d6⟩, _, _⟩ := blk7 H2; obtain ⟨⟨a0, a1, a2, a3, a4, a5, a6⟩, _, _⟩ := blk7 H3; obtain ⟨⟨b0, b1, b2, b3, b4, b5, b6⟩, _, _⟩ := blk7 H4; go_simp; first | done | with_reducible rfl | (trace_state; fail))
      try simp only [Act.put, List.setIfInBounds_toArray, List.set_cons_zero, List.set_cons_succ]
      refine H_call (i := 36) rfl (by kernel_rfl) (fun K hK => ?_)
      go_simp
      (go_at_call 15; (with_reducible refine Calls.mono (sSameClock_any A8 A9 q8 q9 cp8 cp9 zs zs i' d' 0 0 i' d' 0 0 false false false false _ (S11.out.later hHeld.2) (U11.out.later hHeld.2) hq8 hq9) ?_); rw [sameC_refl]; rintro e v1 ⟨rfl, hb_⟩)
      refine hK.out _ _ ?_ (fun hHeld => ?_)
      focus ((try dsimp only); (first | (exact b4_keep hHeld hb_) | (exact b4_drew HS0.out) | (exact HS0.out)))
      clear hK K
      try simp only [Act.put, List.setIfInBounds_toArray, List.set_cons_zero, List.set_cons_succ]
      refine H_take (i := 37) (v := ?_) rfl (by kernel_rfl) (by kernel_rfl) (by kernel_rfl) (fun _ _ _ h => h) (by rfl) ?_ (by assumption) ?_
      rotate_left
      focus (intro w hSw; obtain ⟨⟨H1, H2, H3, H4⟩, hB⟩ := hSw; obtain ⟨⟨c0, c1, c2, c3, c4, c5, c6⟩, _, _⟩ := blk7 H1; obtain ⟨⟨d0, d1, d2, d3, d4, d5, d6⟩, _, _⟩ := blk7 H2; obtain ⟨⟨a0, a1, a2, a3, a4, a5, a6⟩, _, _⟩ := blk7 H3; obtain ⟨⟨b0, b1, b2, b3, b4, b5, b6⟩, _, _⟩ := blk7 H4; go_simp; first | done | with_reducible rfl | (trace_state; fail))
      try simp only [Act.put, List.setIfInBounds_toArray, List.set_cons_zero, List.set_cons_succ]
      refine H_take (i := 38) (v := ?_) rfl (by kernel_rfl) (by kernel_rfl) (by kernel_rfl) (fun _ _ _ h => h) (by rfl) ?_ (by assumption) ?_
      rotate_left
      focus (intro w hSw; obtain ⟨⟨H1, H2, H3, H4⟩, hB⟩ := hSw; obtain ⟨⟨c0, c1, c2, c3, c4, c5, c6⟩, _, _⟩ := blk7 H1; obtain ⟨⟨d0, d1, d2, d3, d4, d5, d6⟩, _, _⟩ := blk7 H2; obtain ⟨⟨a0, a1, a2, a3, a4, a5, a6⟩, _, _⟩ := blk7 H3; obtain ⟨⟨b0, b1, b2, b3, b4, b5, b6⟩, _, _⟩ := blk7 H4; go_simp; first | done | with_reducible rfl | (trace_state; fail))
      try simp only [Act.put, List.setIfInBounds_toArray, List.set_cons_zero, List.set_cons_succ]
      refine H_take (i := 39) (v := ?_) rfl (by kernel_rfl) (by kernel_rfl) (by kernel_rfl) (fun _ _ _ h => h) (by rfl) ?_ (by assumption) ?_
      rotate_left
      focus (intro w hSw; obtain ⟨⟨H1, H2, H3, H4⟩, hB⟩ := hSw; obtain ⟨⟨c0, c1, c2, c3, c4, c5, c6⟩, _, _⟩ := blk7 H1; obtain ⟨⟨d0, d1, d2, d3, d4, d5, d6⟩, _, _⟩ := blk7 H2; obtain ⟨⟨a0, a1, a2, a3, a4, a5, a6⟩, _, _⟩ := blk7 H3; obtain ⟨⟨b0, b1, b2, b3, b4, b5, b6⟩, _, _⟩ := blk7 H4; go_simp; first | done | with_reducible rfl | (trace_state; fail))
      try simp only [Act.put, List.setIfInBounds_toArray, List.set_cons_zero, List.set_cons_succ]
      refine H_take (i := 40) (v := ?_) rfl (by kernel_rfl) (by kernel_rfl) (by kernel_rfl) (fun _ _ _ h => h) (by rfl) ?_ (by assumption) ?_
      rotate_left
      focus (intro w hSw; obtain ⟨⟨H1, H2, H3, H4⟩, hB⟩ := hSw; obtain ⟨⟨c0, c1, c2, c3, c4, c5, c6⟩, _, _⟩ := blk7 H1; obtain ⟨⟨d0, d1, d2, d3, d4, d5, d6⟩, _, _⟩ := blk7 H2; obtain ⟨⟨a0, a1, a2, a3, a4, a5, a6⟩, _, _⟩ := blk7 H3; obtain ⟨⟨b0, b1, b2, b3, b4, b5, b6⟩, _, _⟩ := blk7 H4; go_simp; first | done | with_reducible rfl | (trace_state; fail))
      try simp only [Act.put, List.setIfInBounds_toArray, List.set_cons_zero, List.set_cons_succ]
      refine H_take (i := 41) (v := ?_) rfl (by kernel_rfl) (by kernel_rfl) (by kernel_rfl) (fun _ _ _ h => h) (by rfl) ?_ (by assumption) ?_
      rotate_left
      focus (intro w hSw; obtain ⟨⟨H1, H2, H3, H4⟩, hB⟩ := hSw; obtain ⟨⟨c0, c1, c2, c3, c4, c5, c6⟩, _, _⟩ := blk7 H1; obtain ⟨⟨d0, d1, d2, d3, d4, d5, d6⟩, _, _⟩ := blk7 H2; obtain ⟨⟨a0, a1, a2, a3, a4, a5, a6⟩, _, _⟩ := blk7 H3; obtain ⟨⟨b0, b1, b2, b3, b4, b5, b6⟩, _, _⟩ := blk7 H4; go_simp; first | done | with_reducible rfl | (trace_state; fail))
      try simp only [Act.put, List.setIfInBounds_toArray, List.set_cons_zero, List.set_cons_succ]
      refine H_take (i := 43) (v := ?_) rfl (by kernel_rfl) (by kernel_rfl) (by kernel_rfl) (fun _ _ _ h => h) (by rfl) ?_ (by assumption) ?_
      rotate_left
      focus (intro w hSw; obtain ⟨⟨H1, H2, H3, H4⟩, hB⟩ := hSw; obtain ⟨⟨c0, c1, c2, c3, c4, c5, c6⟩, _, _⟩ := blk7 H1; obtain ⟨⟨d0, d1, d2, d3, d4, d5, d6⟩, _, _⟩ := blk7 H2; obtain ⟨⟨a0, a1, a2, a3, a4, a5, a6⟩, _, _⟩ := blk7 H3; obtain ⟨⟨b0, b1, b2, b3, b4, b5, b6⟩, _, _⟩ := blk7 H4; go_simp; first | done | with_reducible rfl | (trace_state; fail))
      try simp only [Act.put, List.setIfInBounds_toArray, List.set_cons_zero, List.set_cons_succ]
      refine H_take (i := 44) (v := ?_) rfl (by kernel_rfl) (by kernel_rfl) (by kernel_rfl) (fun _ _ _ h => h) (by rfl) ?_ (by assumption) ?_
      rotate_left
      focus (intro w hSw; obtain ⟨⟨H1, H2, H3, H4⟩, hB⟩ := hSw; obtain ⟨⟨c0, c1, c2, c3, c4, c5, c6⟩, _, _⟩ := blk7 H1; obtain ⟨⟨d0, d1, d2, d3, d4, d5, d6⟩, _, _⟩ := blk7 H2; obtain ⟨⟨a0, a1, a2, a3, a4, a5, a6⟩, _, _⟩ := blk7 H3; obtain ⟨⟨b0, b1, b2, b3, b4, b5, b6⟩, _, _⟩ := blk7 H4; go_simp; first | done | with_reducible rfl | (trace_state; fail))
      try simp only [Act.put, List.setIfInBounds_toArray, List.set_cons_zero, List.set_cons_succ]
      refine H_call (i := 42) rfl (by kernel_rfl) (fun K hK => ?_)
      go_simp
      (go_at_call 16; (with_reducible refine Calls.mono (SameClock_any Aa Ab na nb ca cb za zb ia da pa sa ib db pb sb ra fa rb fb _ (Sa11.out.later hHeld.2) (Sb11.out.later hHeld.2) (by omega) (by omega)) ?_); rw [HV.out]; rintro e v1 ⟨rfl, hb_⟩)
      refine hK.out _ _ ?_ (fun hHeld => ?_)
      focus ((try dsimp only); (first | (exact b4_keep hHeld hb_) | (exact b4_drew HS0.out) | (exact HS0.out)))
      clear hK K
      try simp only [Act.put, List.setIfInBounds_toArray, List.set_cons_zero, List.set_cons_succ]
      refine H_call (i := 45) rfl (by kernel_rfl) (fun K hK => ?_)
      go_simp
      (go_at_call 15; (with_reducible refine Calls.mono (sSameClock_any Aa Ab na nb ca cb za zb ia da pa sa ib db pb sb ra fa rb fb _ (Sa11.out.later hHeld.2) (Sb11.out.later hHeld.2) (by omega) (by omega)) ?_); rw [HV.out]; rintro e v1 ⟨rfl, hb_⟩)
      refine hK.out _ _ ?_ (fun hHeld => ?_)
      focus ((try dsimp only); (first | (exact b4_keep hHeld hb_) | (exact b4_drew HS0.out) | (exact HS0.out)))
      clear hK K
      try simp only [Act.put, List.setIfInBounds_toArray, List.set_cons_zero, List.set_cons_succ]
      refine H_take (i := 46) (v := ?_) rfl (by kernel_rfl) (by kernel_rfl) (by kernel_rfl) (fun _ _ _ h => h) (by rfl) ?_ (by assumption) ?_
      rotate_left
      focus (intro w hSw; obtain ⟨⟨H1, H2, H3, H4⟩, hB⟩ := hSw; obtain ⟨⟨c0, c1, c2, c3, c4, c5, c6⟩, _, _⟩ := blk7 H1; obtain ⟨⟨d0, d1, d2, d3, d4, d5, d6⟩, _, _⟩ := blk7 H2; obtain ⟨⟨a0, a1, a2, a3, a4, a5, a6⟩, _, _⟩ := blk7 H3; obtain ⟨⟨b0, b1, b2, b3, b4, b5, b6⟩, _, _⟩ := blk7 H4; go_simp; first | done | with_reducible rfl | (trace_state; fail))
      try simp only [Act.put, List.setIfInBounds_toArray, List.set_cons_zero, List.set_cons_succ]
      refine H_take (i := 47) (v := ?_) rfl (by kernel_rfl) (by kernel_rfl) (by kernel_rfl) (fun _ _ _ h => h) (by rfl) ?_ (by assumption) ?_
      rotate_left
      focus (intro w hSw; obtain ⟨⟨H1, H2, H3, H4⟩, hB⟩ := hSw; obtain ⟨⟨c0, c1, c2, c3, c4, c5, c6⟩, _, _⟩ := blk7 H1; obtain ⟨⟨d0, d1, d2, d3, d4, d5, d6⟩, _, _⟩ := blk7 H2; obtain ⟨⟨a0, a1, a2, a3, a4, a5, a6⟩, _, _⟩ := blk7 H3; obtain ⟨⟨b0, b1, b2, b3, b4, b5, b6⟩, _, _⟩ := blk7 H4; go_simp; first | done | with_reducible rfl | (trace_state; fail))
      try simp only [Act.put, List.setIfInBounds_toArray, List.set_cons_zero, List.set_cons_succ]
      refine wpAnyH_done (by kernel_rfl) ?_ _
      go_wp2_with fail
      go_meet
      exact ⟨rfl, rfl, rfl, rfl, rfl, rfl, rfl, hHeld.2⟩
  case rest =>
  obtain ⟨rfl, rfl, rfl, rfl, rfl, rfl, rfl, hbx⟩ := hcut
  rename World => wx
  have BX := Lib.hid (Below.via hbx B11.out B11.out.size)
  have XX := Lib.hid (X11.out.later hbx)
  have SX := Lib.hid (S11.out.later hbx)
  have HTX := Lib.hid (HT11.out.later hbx)
  clear hbx HS0 X11 Y11 S11 U11 Sa11 Sb11 Za Zb HT11 HV e1 e2 e3 e4 e5 HE
  have e7 : (s.toList == s.toList) = true := beq_self_eq_true _
  cases ok2
  case false =>
    by_cases hc0 : code = 0
    · subst hc0
      obtain ⟨rfl, hvc⟩ := ncR_good HNC.out
      have HVC := Lib.hid hvc
      clear hvc
      obtain ⟨⟨x0', x1, x2, x3, x4, x5, x6⟩, _, hxl⟩ := blk7 XX.out
      go_wp2_with fail
      refine (ValidClock_any A8 q8 cp8 [l, l] i' d' 0 0 false false _ SX.out hq8).mono ?_
      rw [HVC.out]
      rintro e wz ⟨rfl, hz⟩
      have BZ := Lib.hid (Below.via hz BX.out BX.out.size)
      have XZ := Lib.hid (XX.out.later hz)
      have SZ := Lib.hid (SX.out.later hz)
      clear hz x0' x1 x2 x3 x4 x5 x6
      obtain rfl : q8 = 2 := SZ.out.ints.symm
      obtain ⟨gb, go, rfl, hgb, hgc⟩ := SZ.out.2 (by omega)
      have hc0 := hgc 0 (.int .i64 l) rfl
      have hc1 := hgc 1 (.int .i64 l) rfl
      rw [Nat.add_zero] at hc0
      have e8 : (l == l) = true := beq_self_eq_true _
      clear hgc
      obtain ⟨⟨x0', x1, x2, x3, x4, x5, x6⟩, _, hxl⟩ := blk7 XZ.out
      go_wp2_with fail
      go_ret
      exact ⟨rfl, BZ.out⟩
    · have hcb : (code != 0) = true := by rw [bne_iff_ne]; exact hc0
      go_wp2_with fail
      go_ret
      exact ⟨rfl, BX.out⟩
  case true =>
    have HXS := Lib.hid (rdT_back HRS.out)
    go_wp2_with fail
    refine (TimeText_any x0 s HXS.out _ HTX.out).mono ?_
    rintro e wy ⟨rfl, hy⟩
    have BY := Lib.hid (Below.via hy BX.out BX.out.size)
    have XX := Lib.hid (XX.out.later hy)
    have SX := Lib.hid (SX.out.later hy)
    have BX := BY
    clear hy BY
    by_cases hc0 : code = 0
    · subst hc0
      obtain ⟨rfl, hvc⟩ := ncR_good HNC.out
      have HVC := Lib.hid hvc
      clear hvc
      obtain ⟨⟨x0', x1, x2, x3, x4, x5, x6⟩, _, hxl⟩ := blk7 XX.out
      go_wp2_with fail
      refine (ValidClock_any A8 q8 cp8 [l, l] i' d' 0 0 false false _ SX.out hq8).mono ?_
      rw [HVC.out]
      rintro e wz ⟨rfl, hz⟩
      have BZ := Lib.hid (Below.via hz BX.out BX.out.size)
      have XZ := Lib.hid (XX.out.later hz)
      have SZ := Lib.hid (SX.out.later hz)
      clear hz x0' x1 x2 x3 x4 x5 x6
      obtain rfl : q8 = 2 := SZ.out.ints.symm
      obtain ⟨gb, go, rfl, hgb, hgc⟩ := SZ.out.2 (by omega)
      have hc0 := hgc 0 (.int .i64 l) rfl
      have hc1 := hgc 1 (.int .i64 l) rfl
      rw [Nat.add_zero] at hc0
      have e8 : (l == l) = true := beq_self_eq_true _
      clear hgc
      obtain ⟨⟨x0', x1, x2, x3, x4, x5, x6⟩, _, hxl⟩ := blk7 XZ.out
      go_wp2_with fail
      go_ret
      exact ⟨rfl, BZ.out⟩
    · have hcb : (code != 0) = true := by rw [bne_iff_ne]; exact hc0
      go_wp2_with fail
      go_ret
      exact ⟨rfl, BX.out⟩
end Go.Proofs.YtbepfonpfnllkaaDoor
