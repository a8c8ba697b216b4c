/- FnRatedTexts: the law. Conditions: the table of powers as it is laid. -/
import Derived.Test.YteeplmnjipddaaaDoorG10
import Derived.Test.YteeplmnjipddaaaDoorG12
import Derived.Test.YteeplmnjipddaaaDoorG18
import Derived.Test.YteeplmnjipddaaaDoorG22
import Derived.Test.YteeplmnjipddaaaDoorG05
import Derived.Deep.DeepCutAuto
namespace Go.Proofs.YteeplmnjipddaaaDoor
set_option linter.unusedSimpArgs false
set_option linter.unusedVariables false
open Go.RowKit Go.WideShapes Go.ChangeShapes

set_option maxRecDepth 20000 in
set_option maxHeartbeats 4000000 in
theorem fnRatedTexts_walk (A : Option Addr) (n c : Nat) (cs : List Int) (w : World) (hs : Sl w w.heap.size 1 A n (cs.map (Value.int .u8))) (hm : n ≤ 9223372036854775807) (hb : ∀ z ∈ cs, 0 ≤ z ∧ z ≤ 255) (ht : TabW w) :
    Calls Tryd.prog 3 #[.slice A n c] w fun e w' => e = .returned (.bool true) ∧ Below w.heap.size w w' := by
  have HS := Lib.hid hs
  have HB := Lib.hid hb
  have HT := Lib.hid ht
  clear hs hb ht
  go_enter Tryd.func3, Tryd.ntmps3
  go_wp2_with fail
  refine (f6big_any A n c _).mono ?_
  rintro e w_ ⟨q, rfl, hq, rfl⟩
  cases q
  case true =>
    go_wp2_with fail
    go_ret
    exact ⟨rfl, by (repeat' (first | (with_reducible exact Below.refl _ _) | (with_reducible assumption) | (with_reducible refine Below.alloc ?_ ?_ _) | (with_reducible refine Below.drew ?_) | (with_reducible refine belowDrewN ?_ _) | (with_reducible refine Below.setCell ?_ ?_ _) | (with_reducible refine Below.via (by with_reducible assumption) ?_ ?_) | (with_reducible refine Below.viaD (by with_reducible assumption) ?_ ?_) | (with_reducible exact Below.size (by with_reducible assumption)) | go_size | (with_reducible refine Nat.le_trans ?_ (Below.size (by with_reducible assumption))) | (with_reducible refine Nat.le_trans ?_ (sizeAlloc _ _)) | (with_reducible refine Nat.le_trans ?_ (sizeSet _ _ _)) | (with_reducible refine Nat.le_trans ?_ (sizeDrew _))))⟩
  case false =>
  have hn := hq rfl
  clear hq
  go_wp2_with fail
  refine (DrawRatedText_any A n c cs _ HS.out HB.out (by omega)).mono ?_
  rintro e w1 ⟨a, b, rfl, h1⟩
  have B1 := Lib.hid h1
  have BX1 := Lib.hid (Below.alloc h1 h1.size (.cells #[.int .i64 a, .int .i64 b] 25))
  have P1 := Lib.hid (Blk.new w1 25 #[.int .i64 a, .int .i64 b])
  clear h1
  obtain ⟨t, htt⟩ : ∃ t, ratedX a b = t := ⟨_, rfl⟩
  have htz : t.size ≤ 1000 := by rw [← htt]; exact ratedX_size a b
  obtain ⟨V, hV⟩ : ∃ v, validB a b = v := ⟨_, rfl⟩
  obtain ⟨n1, n2, ok, hrd⟩ : ∃ x y z, rdR t.data.toList = (x, y, z) := ⟨_, _, _, rfl⟩
  have HE : Hid ((if V then (a, b, true) else ((0 : Int), (0 : Int), false)) = (n1, n2, ok)) := by unfold Hid; rw [← hrd, ← htt, rdR_ratedX, hV]
  have HEM : Hid ((t = ⟨#[]⟩) ↔ V = false) := by unfold Hid; rw [← htt, ← hV]; exact ratedX_empty a b
  have HTT := Lib.hid htt
  have HV := Lib.hid hV
  have HRD := Lib.hid hrd
  clear htt hV hrd
  have hp0 := P1.out.cell 0
  have hp1 := P1.out.cell 1
  simp only [List.getElem?_toArray, List.getElem?_cons_zero, List.getElem?_cons_succ] at hp0 hp1
  go_wp2_with fail
  refine (RatedText_any a b t HTT.out _ (HT.out.later BX1.out)).mono ?_
  rintro e w2 ⟨rfl, h2⟩
  have B2 := Lib.hid (Below.via h2 BX1.out BX1.out.size)
  have P2 := Lib.hid (P1.out.later h2)
  clear h2 hp0 hp1
  go_wp2_with fail
  refine (ReadRated_any t n1 n2 ok HRD.out (by omega) _ (HT.out.later B2.out)).mono ?_
  rintro e w3 ⟨rfl, h3⟩
  have B3 := Lib.hid (Below.via h3 B2.out B2.out.size)
  have P3 := Lib.hid (P2.out.later h3)
  have BX3 := Lib.hid (Below.alloc B3.out B3.out.size (.cells #[.int .i64 n1, .int .i64 n2] 25))
  have R3 := Lib.hid (Blk.new w3 25 #[.int .i64 n1, .int .i64 n2])
  have PX3 := Lib.hid (P3.out.later (Below.alloc (Below.refl _ _) (Nat.le_refl _) (.cells #[.int .i64 n1, .int .i64 n2] 25)))
  clear h3 P2
  go_wp2_with fail
  refine (DrawReadRated_any A n c cs _ ((HS.out.below BX3.out).mono BX3.out.size) HB.out (by omega)).mono ?_
  rintro e w4 ⟨s, rfl, hsz, h4⟩
  have B4 := Lib.hid (Below.via h4 BX3.out BX3.out.size)
  have P4 := Lib.hid (PX3.out.later h4)
  have R4 := Lib.hid (R3.out.later h4)
  clear h4 P3 PX3 R3
  obtain ⟨m1, m2, ok2, hrs⟩ : ∃ x y z, rdR s.data.toList = (x, y, z) := ⟨_, _, _, rfl⟩
  have HRS := Lib.hid hrs
  clear hrs
  go_wp2_with fail
  refine (ReadRated_any s m1 m2 ok2 HRS.out (by omega) _ (HT.out.later B4.out)).mono ?_
  rintro e w5 ⟨rfl, h5⟩
  have B5 := Lib.hid (Below.via h5 B4.out B4.out.size)
  have BX5 := Lib.hid (Below.alloc B5.out B5.out.size (.cells #[.int .i64 m1, .int .i64 m2] 25))
  have N5 : Hid (Below w5.heap.size w5 (w5.alloc (.cells #[.int .i64 m1, .int .i64 m2] 25))) := Below.alloc (Below.refl _ _) (Nat.le_refl _) _
  have P5 := Lib.hid ((P4.out.later h5).later N5.out)
  have R5 := Lib.hid ((R4.out.later h5).later N5.out)
  have X5 := Lib.hid (Blk.new w5 25 #[.int .i64 m1, .int .i64 m2])
  clear h5 P4 R4
  go_wp2_with fail
  refine (sReadRated_any s m1 m2 ok2 HRS.out (by omega) _).mono ?_
  rintro e w6 ⟨rfl, h6⟩
  have B6 := Lib.hid (Below.via h6 BX5.out BX5.out.size)
  have BX6 := Lib.hid (Below.alloc B6.out B6.out.size (.cells #[.int .i64 m1, .int .i64 m2] 25))
  have N6 : Hid (Below w6.heap.size w6 (w6.alloc (.cells #[.int .i64 m1, .int .i64 m2] 25))) := Below.alloc (Below.refl _ _) (Nat.le_refl _) _
  have P6 := Lib.hid ((P5.out.later h6).later N6.out)
  have R6 := Lib.hid ((R5.out.later h6).later N6.out)
  have X6 := Lib.hid ((X5.out.later h6).later N6.out)
  have Y6 := Lib.hid (Blk.new w6 25 #[.int .i64 m1, .int .i64 m2])
  clear h6 P5 R5 X5
  go_wp2_with fail
  refine (DrawRatingOrder_any A n c cs _ ((HS.out.below BX6.out).mono BX6.out.size) HB.out (by omega)).mono ?_
  rintro e w7 ⟨v1, j, zs, rfl, hj, hr1, h7⟩
  obtain ⟨A1, gg1, cp1, rfl, hg1, hc1, hm1, o1⟩ := own_of_row hr1
  have S1 := Lib.hid o1.sl
  have B7 := Lib.hid (Below.via h7 BX6.out BX6.out.size)
  have P7 := Lib.hid (P6.out.later h7)
  have R7 := Lib.hid (R6.out.later h7)
  have X7 := Lib.hid (X6.out.later h7)
  have Y7 := Lib.hid (Y6.out.later h7)
  clear hr1 o1 h7 P6 R6 X6 Y6
  obtain ⟨l, qc⟩ : ∃ x, roR zs j = x := ⟨_, rfl⟩
  obtain ⟨l, q, code⟩ := l
  have hqj := roR_mem qc
  have HR := Lib.hid qc
  clear qc
  go_wp2_with fail
  refine (RatingOrder_any A1 j cp1 zs _ S1.out (by omega) l q code HR.out).mono ?_
  rintro e w8 ⟨A2, g2, cp2, rfl, hg2, o2, h8⟩
  have B8 := Lib.hid (Below.via h8 B7.out B7.out.size)
  have S2 := Lib.hid (S1.out.later h8)
  have O2 := Lib.hid o2
  have P8 := Lib.hid (P7.out.later h8)
  have R8 := Lib.hid (R7.out.later h8)
  have X8 := Lib.hid (X7.out.later h8)
  have Y8 := Lib.hid (Y7.out.later h8)
  clear o2 h8 P7 R7 X7 Y7
  go_wp2_with fail
  refine (sRatingOrder_any A1 j cp1 zs _ S2.out (by omega) l q code HR.out).mono ?_
  rintro e w9 ⟨A3, g3, cp3, rfl, hg3, o3, h9⟩
  have B9 := Lib.hid (Below.via h9 B8.out B8.out.size)
  have S3 := Lib.hid (S2.out.later h9)
  have Q1 := Lib.hid (O2.out.later h9).sl
  have Q2 := Lib.hid o3.sl
  have hS0 : (((w9.cell? ⟨w1.heap.size, 0, none⟩ = some (.int .i64 a) ∧ w9.cell? ⟨w1.heap.size, 1, none⟩ = some (.int .i64 b)) ∧ (w9.cell? ⟨w3.heap.size, 0, none⟩ = some (.int .i64 n1) ∧ w9.cell? ⟨w3.heap.size, 1, none⟩ = some (.int .i64 n2))) ∧ ((w9.cell? ⟨w5.heap.size, 0, none⟩ = some (.int .i64 m1) ∧ w9.cell? ⟨w5.heap.size, 1, none⟩ = some (.int .i64 m2)) ∧ (w9.cell? ⟨w6.heap.size, 0, none⟩ = some (.int .i64 m1) ∧ w9.cell? ⟨w6.heap.size, 1, none⟩ = some (.int .i64 m2)))) ∧ Below w9.heap.size w9 w9 :=
    ⟨⟨⟨⟨(P8.out.later h9).cell 0, (P8.out.later h9).cell 1⟩, (R8.out.later h9).cell 0, (R8.out.later h9).cell 1⟩, ⟨(X8.out.later h9).cell 0, (X8.out.later h9).cell 1⟩, (Y8.out.later h9).cell 0, (Y8.out.later h9).cell 1⟩, Below.refl _ _⟩
  have HS0 := Lib.hid hS0
  clear o3 h9 P8 R8 X8 Y8 O2 S1 S2 hS0
  have e1 : (code != code) = false := by rw [bne, beq_self_eq_true]; rfl
  have e4 : (t.toList == t.toList) = true := beq_self_eq_true _
  go_upto_region 12 with fail
  go_cut [12, 13, 100] (fun s12 s13 s100 wx => s12 = .slice A1 j cp1 ∧ s13 = .slice A2 q cp2 ∧ s100 = .bool false ∧ Below w9.heap.size w9 wx)
  case first =>
    have hk := HE.out
    have hem := HEM.out
    cases V
    case false =>
      injection hk with k1 k2
      injection k2 with k2 k3
      subst k1 k2 k3
      have hte := hem.mpr rfl
      have hz0 : (t.toList == ({ data := #[] } : ByteArray).toList) = true := by rw [hte]; exact beq_self_eq_true _
      have hz1 : (t.toList == []) = true := by rw [hte, ByteArray.toList_eq]; rfl
      clear hte
      have e5 : (ok2 != ok2) = false := by cases ok2 <;> rfl
      all_goals
        refine wp_region_held_drew (S := (fun W => (((W.cell? ⟨w1.heap.size, 0, none⟩ = some (.int .i64 a) ∧ W.cell? ⟨w1.heap.size, 1, none⟩ = some (.int .i64 b)) ∧ (W.cell? ⟨w3.heap.size, 0, none⟩ = some (.int .i64 0) ∧ W.cell? ⟨w3.heap.size, 1, none⟩ = some (.int .i64 0))) ∧ ((W.cell? ⟨w5.heap.size, 0, none⟩ = some (.int .i64 m1) ∧ W.cell? ⟨w5.heap.size, 1, none⟩ = some (.int .i64 m2)) ∧ (W.cell? ⟨w6.heap.size, 0, none⟩ = some (.int .i64 m1) ∧ W.cell? ⟨w6.heap.size, 1, none⟩ = some (.int .i64 m2)))) ∧ Below w9.heap.size w9 W)) (by kernel_rfl) ?_ (fun hHeld => ?_)
        focus ((try dsimp only); (first | (exact bx_keep hHeld hb_) | (exact bx_drew HS0.out) | (exact HS0.out)))
        refine H_take (i := 0) (v := ?_) rfl (by kernel_rfl) (by kernel_rfl) (by kernel_rfl) (fun _ _ _ h => h) (by rfl) ?_ (by assumption) ?_
        rotate_left
        focus (intro w hSw; obtain ⟨⟨⟨⟨c0, c1⟩, c2, c3⟩, ⟨c4, c5⟩, c6, c7⟩, hB⟩ := hSw; go_simp; first | done | with_reducible rfl | (trace_state; fail))
        try simp only [Act.put, List.setIfInBounds_toArray, List.set_cons_zero, List.set_cons_succ]
        refine H_take (i := 1) (v := ?_) rfl (by kernel_rfl) (by kernel_rfl) (by kernel_rfl) (fun _ _ _ h => h) (by rfl) ?_ (by assumption) ?_
        rotate_left
        focus (intro w hSw; obtain ⟨⟨⟨⟨c0, c1⟩, c2, c3⟩, ⟨c4, c5⟩, c6, c7⟩, hB⟩ := hSw; go_simp; first | done | with_reducible rfl | (trace_state; fail))
        try simp only [Act.put, List.setIfInBounds_toArray, List.set_cons_zero, List.set_cons_succ]
        refine H_call (i := 2) rfl (by kernel_rfl) (fun K hK => ?_)
        go_simp
        (go_at_call 13; (with_reducible refine Calls.mono (sRatedText_any a b _ HTT.out _) ?_); rintro e v1 ⟨rfl, hb_⟩)
        refine hK.out _ _ ?_ (fun hHeld => ?_)
        focus ((try dsimp only); (first | (exact bx_keep hHeld hb_) | (exact bx_drew HS0.out) | (exact HS0.out)))
        clear hK K
        try simp only [Act.put, List.setIfInBounds_toArray, List.set_cons_zero, List.set_cons_succ]
        refine H_take (i := 3) (v := ?_) rfl (by kernel_rfl) (by kernel_rfl) (by kernel_rfl) (fun _ _ _ h => h) (by rfl) ?_ (by assumption) ?_
        rotate_left
        focus (intro w hSw; obtain ⟨⟨⟨⟨c0, c1⟩, c2, c3⟩, ⟨c4, c5⟩, c6, c7⟩, hB⟩ := hSw; go_simp; first | done | with_reducible rfl | (trace_state; fail))
        try simp only [Act.put, List.setIfInBounds_toArray, List.set_cons_zero, List.set_cons_succ]
        refine H_take (i := 4) (v := ?_) rfl (by kernel_rfl) (by kernel_rfl) (by kernel_rfl) (fun _ _ _ h => h) (by rfl) ?_ (by assumption) ?_
        rotate_left
        focus (intro w hSw; obtain ⟨⟨⟨⟨c0, c1⟩, c2, c3⟩, ⟨c4, c5⟩, c6, c7⟩, hB⟩ := hSw; go_simp; first | done | with_reducible rfl | (trace_state; fail))
        try simp only [Act.put, List.setIfInBounds_toArray, List.set_cons_zero, List.set_cons_succ]
        refine H_take (i := 5) (v := ?_) rfl (by kernel_rfl) (by kernel_rfl) (by kernel_rfl) (fun _ _ _ h => h) (by rfl) ?_ (by assumption) ?_
        rotate_left
        focus (intro w hSw; obtain ⟨⟨⟨⟨c0, c1⟩, c2, c3⟩, ⟨c4, c5⟩, c6, c7⟩, hB⟩ := hSw; go_simp; first | done | with_reducible rfl | (trace_state; fail))
        try simp only [Act.put, List.setIfInBounds_toArray, List.set_cons_zero, List.set_cons_succ]
        refine H_take (i := 6) (v := ?_) rfl (by kernel_rfl) (by kernel_rfl) (by kernel_rfl) (fun _ _ _ h => h) (by rfl) ?_ (by assumption) ?_
        rotate_left
        focus (intro w hSw; obtain ⟨⟨⟨⟨c0, c1⟩, c2, c3⟩, ⟨c4, c5⟩, c6, c7⟩, hB⟩ := hSw; go_simp; first | done | with_reducible rfl | (trace_state; fail))
        try simp only [Act.put, List.setIfInBounds_toArray, List.set_cons_zero, List.set_cons_succ]
        refine H_take (i := 7) (v := ?_) rfl (by kernel_rfl) (by kernel_rfl) (by kernel_rfl) (fun _ _ _ h => h) (by rfl) ?_ (by assumption) ?_
        rotate_left
        focus (intro w hSw; obtain ⟨⟨⟨⟨c0, c1⟩, c2, c3⟩, ⟨c4, c5⟩, c6, c7⟩, hB⟩ := hSw; go_simp; first | done | with_reducible rfl | (trace_state; fail))
        try simp only [Act.put, List.setIfInBounds_toArray, List.set_cons_zero, List.set_cons_succ]
        refine H_take (i := 8) (v := ?_) rfl (by kernel_rfl) (by kernel_rfl) (by kernel_rfl) (fun _ _ _ h => h) (by rfl) ?_ (by assumption) ?_
        rotate_left
        focus (intro w hSw; obtain ⟨⟨⟨⟨c0, c1⟩, c2, c3⟩, ⟨c4, c5⟩, c6, c7⟩, hB⟩ := hSw; go_simp; first | done | with_reducible rfl | (trace_state; fail))
        try simp only [Act.put, List.setIfInBounds_toArray, List.set_cons_zero, List.set_cons_succ]
        refine H_take (i := 9) (v := ?_) rfl (by kernel_rfl) (by kernel_rfl) (by kernel_rfl) (fun _ _ _ h => h) (by rfl) ?_ (by assumption) ?_
        rotate_left
        focus (intro w hSw; obtain ⟨⟨⟨⟨c0, c1⟩, c2, c3⟩, ⟨c4, c5⟩, c6, c7⟩, hB⟩ := hSw; go_simp; first | done | with_reducible rfl | (trace_state; fail))
        try simp only [Act.put, List.setIfInBounds_toArray, List.set_cons_zero, List.set_cons_succ]
        refine H_take (i := 10) (v := ?_) rfl (by kernel_rfl) (by kernel_rfl) (by kernel_rfl) (fun _ _ _ h => h) (by rfl) ?_ (by assumption) ?_
        rotate_left
        focus (intro w hSw; obtain ⟨⟨⟨⟨c0, c1⟩, c2, c3⟩, ⟨c4, c5⟩, c6, c7⟩, hB⟩ := hSw; go_simp; first | done | with_reducible rfl | (trace_state; fail))
        try simp only [Act.put, List.setIfInBounds_toArray, List.set_cons_zero, List.set_cons_succ]
        refine H_take (i := 11) (v := ?_) rfl (by kernel_rfl) (by kernel_rfl) (by kernel_rfl) (fun _ _ _ h => h) (by rfl) ?_ (by assumption) ?_
        rotate_left
        focus (intro w hSw; obtain ⟨⟨⟨⟨c0, c1⟩, c2, c3⟩, ⟨c4, c5⟩, c6, c7⟩, hB⟩ := hSw; go_simp; first | done | with_reducible rfl | (trace_state; fail))
        try simp only [Act.put, List.setIfInBounds_toArray, List.set_cons_zero, List.set_cons_succ]
        refine H_take (i := 12) (v := ?_) rfl (by kernel_rfl) (by kernel_rfl) (by kernel_rfl) (fun _ _ _ h => h) (by rfl) ?_ (by assumption) ?_
        rotate_left
        focus (intro w hSw; obtain ⟨⟨⟨⟨c0, c1⟩, c2, c3⟩, ⟨c4, c5⟩, c6, c7⟩, hB⟩ := hSw; go_simp; first | done | with_reducible rfl | (trace_state; fail))
        try simp only [Act.put, List.setIfInBounds_toArray, List.set_cons_zero, List.set_cons_succ]
        refine H_pass (i := 13) rfl (by kernel_rfl) (by kernel_rfl) (by kernel_rfl) (fun _ _ _ h => h) (by rfl) (by assumption) ?_
        try simp only [Act.put, List.setIfInBounds_toArray, List.set_cons_zero, List.set_cons_succ]
        refine H_pass (i := 14) rfl (by kernel_rfl) (by kernel_rfl) (by kernel_rfl) (fun _ _ _ h => h) (by rfl) (by assumption) ?_
        try simp only [Act.put, List.setIfInBounds_toArray, List.set_cons_zero, List.set_cons_succ]
        refine H_pass (i := 15) rfl (by kernel_rfl) (by kernel_rfl) (by kernel_rfl) (fun _ _ _ h => h) (by rfl) (by assumption) ?_
        try simp only [Act.put, List.setIfInBounds_toArray, List.set_cons_zero, List.set_cons_succ]
        refine H_take (i := 16) (v := ?_) rfl (by kernel_rfl) (by kernel_rfl) (by kernel_rfl) (fun _ _ _ h => h) (by rfl) ?_ (by assumption) ?_
        rotate_left
        focus (intro w hSw; obtain ⟨⟨⟨⟨c0, c1⟩, c2, c3⟩, ⟨c4, c5⟩, c6, c7⟩, hB⟩ := hSw; go_simp; first | done | with_reducible rfl | (trace_state; fail))
        try simp only [Act.put, List.setIfInBounds_toArray, List.set_cons_zero, List.set_cons_succ]
        refine H_take (i := 17) (v := ?_) rfl (by kernel_rfl) (by kernel_rfl) (by kernel_rfl) (fun _ _ _ h => h) (by rfl) ?_ (by assumption) ?_
        rotate_left
        focus (intro w hSw; obtain ⟨⟨⟨⟨c0, c1⟩, c2, c3⟩, ⟨c4, c5⟩, c6, c7⟩, hB⟩ := hSw; go_simp; first | done | with_reducible rfl | (trace_state; fail))
        try simp only [Act.put, List.setIfInBounds_toArray, List.set_cons_zero, List.set_cons_succ]
        refine H_take (i := 18) (v := ?_) rfl (by kernel_rfl) (by kernel_rfl) (by kernel_rfl) (fun _ _ _ h => h) (by rfl) ?_ (by assumption) ?_
        rotate_left
        focus (intro w hSw; obtain ⟨⟨⟨⟨c0, c1⟩, c2, c3⟩, ⟨c4, c5⟩, c6, c7⟩, hB⟩ := hSw; go_simp; first | done | with_reducible rfl | (trace_state; fail))
        try simp only [Act.put, List.setIfInBounds_toArray, List.set_cons_zero, List.set_cons_succ]
        refine H_take (i := 19) (v := ?_) rfl (by kernel_rfl) (by kernel_rfl) (by kernel_rfl) (fun _ _ _ h => h) (by rfl) ?_ (by assumption) ?_
        rotate_left
        focus (intro w hSw; obtain ⟨⟨⟨⟨c0, c1⟩, c2, c3⟩, ⟨c4, c5⟩, c6, c7⟩, hB⟩ := hSw; go_simp; first | done | with_reducible rfl | (trace_state; fail))
        try simp only [Act.put, List.setIfInBounds_toArray, List.set_cons_zero, List.set_cons_succ]
        refine H_take (i := 20) (v := ?_) rfl (by kernel_rfl) (by kernel_rfl) (by kernel_rfl) (fun _ _ _ h => h) (by rfl) ?_ (by assumption) ?_
        rotate_left
        focus (intro w hSw; obtain ⟨⟨⟨⟨c0, c1⟩, c2, c3⟩, ⟨c4, c5⟩, c6, c7⟩, hB⟩ := hSw; go_simp; first | done | with_reducible rfl | (trace_state; fail))
        try simp only [Act.put, List.setIfInBounds_toArray, List.set_cons_zero, List.set_cons_succ]
        refine H_take (i := 21) (v := ?_) rfl (by kernel_rfl) (by kernel_rfl) (by kernel_rfl) (fun _ _ _ h => h) (by rfl) ?_ (by assumption) ?_
        rotate_left
        focus (intro w hSw; obtain ⟨⟨⟨⟨c0, c1⟩, c2, c3⟩, ⟨c4, c5⟩, c6, c7⟩, hB⟩ := hSw; go_simp; first | done | with_reducible rfl | (trace_state; fail))
        try simp only [Act.put, List.setIfInBounds_toArray, List.set_cons_zero, List.set_cons_succ]
        refine H_take (i := 22) (v := ?_) rfl (by kernel_rfl) (by kernel_rfl) (by kernel_rfl) (fun _ _ _ h => h) (by rfl) ?_ (by assumption) ?_
        rotate_left
        focus (intro w hSw; obtain ⟨⟨⟨⟨c0, c1⟩, c2, c3⟩, ⟨c4, c5⟩, c6, c7⟩, hB⟩ := hSw; go_simp; first | done | with_reducible rfl | (trace_state; fail))
        try simp only [Act.put, List.setIfInBounds_toArray, List.set_cons_zero, List.set_cons_succ]
        refine H_take (i := 23) (v := ?_) rfl (by kernel_rfl) (by kernel_rfl) (by kernel_rfl) (fun _ _ _ h => h) (by rfl) ?_ (by assumption) ?_
        rotate_left
        focus (intro w hSw; obtain ⟨⟨⟨⟨c0, c1⟩, c2, c3⟩, ⟨c4, c5⟩, c6, c7⟩, hB⟩ := hSw; go_simp; first | done | with_reducible rfl | (trace_state; fail))
        try simp only [Act.put, List.setIfInBounds_toArray, List.set_cons_zero, List.set_cons_succ]
        refine H_take (i := 24) (v := ?_) rfl (by kernel_rfl) (by kernel_rfl) (by kernel_rfl) (fun _ _ _ h => h) (by rfl) ?_ (by assumption) ?_
        rotate_left
        focus (intro w hSw; obtain ⟨⟨⟨⟨c0, c1⟩, c2, c3⟩, ⟨c4, c5⟩, c6, c7⟩, hB⟩ := hSw; go_simp; first | done | with_reducible rfl | (trace_state; fail))
        try simp only [Act.put, List.setIfInBounds_toArray, List.set_cons_zero, List.set_cons_succ]
        refine H_take (i := 25) (v := ?_) rfl (by kernel_rfl) (by kernel_rfl) (by kernel_rfl) (fun _ _ _ h => h) (by rfl) ?_ (by assumption) ?_
        rotate_left
        focus (intro w hSw; obtain ⟨⟨⟨⟨c0, c1⟩, c2, c3⟩, ⟨c4, c5⟩, c6, c7⟩, hB⟩ := hSw; go_simp; first | done | with_reducible rfl | (trace_state; fail))
        try simp only [Act.put, List.setIfInBounds_toArray, List.set_cons_zero, List.set_cons_succ]
        refine H_take (i := 26) (v := ?_) rfl (by kernel_rfl) (by kernel_rfl) (by kernel_rfl) (fun _ _ _ h => h) (by rfl) ?_ (by assumption) ?_
        rotate_left
        focus (intro w hSw; obtain ⟨⟨⟨⟨c0, c1⟩, c2, c3⟩, ⟨c4, c5⟩, c6, c7⟩, hB⟩ := hSw; go_simp; first | done | with_reducible rfl | (trace_state; fail))
        try simp only [Act.put, List.setIfInBounds_toArray, List.set_cons_zero, List.set_cons_succ]
        refine H_take (i := 27) (v := ?_) rfl (by kernel_rfl) (by kernel_rfl) (by kernel_rfl) (fun _ _ _ h => h) (by rfl) ?_ (by assumption) ?_
        rotate_left
        focus (intro w hSw; obtain ⟨⟨⟨⟨c0, c1⟩, c2, c3⟩, ⟨c4, c5⟩, c6, c7⟩, hB⟩ := hSw; go_simp; first | done | with_reducible rfl | (trace_state; fail))
        try simp only [Act.put, List.setIfInBounds_toArray, List.set_cons_zero, List.set_cons_succ]
        refine H_take (i := 28) (v := ?_) rfl (by kernel_rfl) (by kernel_rfl) (by kernel_rfl) (fun _ _ _ h => h) (by rfl) ?_ (by assumption) ?_
        rotate_left
        focus (intro w hSw; obtain ⟨⟨⟨⟨c0, c1⟩, c2, c3⟩, ⟨c4, c5⟩, c6, c7⟩, hB⟩ := hSw; go_simp; first | done | with_reducible rfl | (trace_state; fail))
        try simp only [Act.put, List.setIfInBounds_toArray, List.set_cons_zero, List.set_cons_succ]
        refine H_take (i := 29) (v := ?_) rfl (by kernel_rfl) (by kernel_rfl) (by kernel_rfl) (fun _ _ _ h => h) (by rfl) ?_ (by assumption) ?_
        rotate_left
        focus (intro w hSw; obtain ⟨⟨⟨⟨c0, c1⟩, c2, c3⟩, ⟨c4, c5⟩, c6, c7⟩, hB⟩ := hSw; go_simp; first | done | with_reducible rfl | (trace_state; fail))
        try simp only [Act.put, List.setIfInBounds_toArray, List.set_cons_zero, List.set_cons_succ]
        refine H_take (i := 30) (v := ?_) rfl (by kernel_rfl) (by kernel_rfl) (by kernel_rfl) (fun _ _ _ h => h) (by rfl) ?_ (by assumption) ?_
        rotate_left
        focus (intro w hSw; obtain ⟨⟨⟨⟨c0, c1⟩, c2, c3⟩, ⟨c4, c5⟩, c6, c7⟩, hB⟩ := hSw; go_simp; first | done | with_reducible rfl | (trace_state; fail))
        try simp only [Act.put, List.setIfInBounds_toArray, List.set_cons_zero, List.set_cons_succ]
        refine H_take (i := 31) (v := ?_) rfl (by kernel_rfl) (by kernel_rfl) (by kernel_rfl) (fun _ _ _ h => h) (by rfl) ?_ (by assumption) ?_
        rotate_left
        focus (intro w hSw; obtain ⟨⟨⟨⟨c0, c1⟩, c2, c3⟩, ⟨c4, c5⟩, c6, c7⟩, hB⟩ := hSw; go_simp; first | done | with_reducible rfl | (trace_state; fail))
        try simp only [Act.put, List.setIfInBounds_toArray, List.set_cons_zero, List.set_cons_succ]
        refine H_take (i := 32) (v := ?_) rfl (by kernel_rfl) (by kernel_rfl) (by kernel_rfl) (fun _ _ _ h => h) (by rfl) ?_ (by assumption) ?_
        rotate_left
        focus (intro w hSw; obtain ⟨⟨⟨⟨c0, c1⟩, c2, c3⟩, ⟨c4, c5⟩, c6, c7⟩, hB⟩ := hSw; go_simp; first | done | with_reducible rfl | (trace_state; fail))
        try simp only [Act.put, List.setIfInBounds_toArray, List.set_cons_zero, List.set_cons_succ]
        refine H_take (i := 33) (v := ?_) rfl (by kernel_rfl) (by kernel_rfl) (by kernel_rfl) (fun _ _ _ h => h) (by rfl) ?_ (by assumption) ?_
        rotate_left
        focus (intro w hSw; obtain ⟨⟨⟨⟨c0, c1⟩, c2, c3⟩, ⟨c4, c5⟩, c6, c7⟩, hB⟩ := hSw; go_simp; first | done | with_reducible rfl | (trace_state; fail))
        try simp only [Act.put, List.setIfInBounds_toArray, List.set_cons_zero, List.set_cons_succ]
        refine H_take (i := 34) (v := ?_) rfl (by kernel_rfl) (by kernel_rfl) (by kernel_rfl) (fun _ _ _ h => h) (by rfl) ?_ (by assumption) ?_
        rotate_left
        focus (intro w hSw; obtain ⟨⟨⟨⟨c0, c1⟩, c2, c3⟩, ⟨c4, c5⟩, c6, c7⟩, hB⟩ := hSw; go_simp; first | done | with_reducible rfl | (trace_state; fail))
        try simp only [Act.put, List.setIfInBounds_toArray, List.set_cons_zero, List.set_cons_succ]
        refine H_take (i := 35) (v := ?_) rfl (by kernel_rfl) (by kernel_rfl) (by kernel_rfl) (fun _ _ _ h => h) (by rfl) ?_ (by assumption) ?_
        rotate_left
        focus (intro w hSw; obtain ⟨⟨⟨⟨c0, c1⟩, c2, c3⟩, ⟨c4, c5⟩, c6, c7⟩, hB⟩ := hSw; go_simp; first | done | with_reducible rfl | (trace_state; fail))
        try simp only [Act.put, List.setIfInBounds_toArray, List.set_cons_zero, List.set_cons_succ]
        refine H_call (i := 36) rfl (by kernel_rfl) (fun K hK => ?_)
        go_simp
        (go_at_call 14; (with_reducible refine Calls.mono (f6ints_sameR A2 A3 q cp2 cp3 l _ (Q1.out.later hHeld.2) (Q2.out.later hHeld.2) (by omega)) ?_); rintro e v1 ⟨rfl, hb_⟩)
        refine hK.out _ _ ?_ (fun hHeld => ?_)
        focus ((try dsimp only); (first | (exact bx_keep hHeld hb_) | (exact bx_drew HS0.out) | (exact HS0.out)))
        clear hK K
        try simp only [Act.put, List.setIfInBounds_toArray, List.set_cons_zero, List.set_cons_succ]
        refine H_take (i := 37) (v := ?_) rfl (by kernel_rfl) (by kernel_rfl) (by kernel_rfl) (fun _ _ _ h => h) (by rfl) ?_ (by assumption) ?_
        rotate_left
        focus (intro w hSw; obtain ⟨⟨⟨⟨c0, c1⟩, c2, c3⟩, ⟨c4, c5⟩, c6, c7⟩, hB⟩ := hSw; go_simp; first | done | with_reducible rfl | (trace_state; fail))
        try simp only [Act.put, List.setIfInBounds_toArray, List.set_cons_zero, List.set_cons_succ]
        refine H_take (i := 38) (v := ?_) rfl (by kernel_rfl) (by kernel_rfl) (by kernel_rfl) (fun _ _ _ h => h) (by rfl) ?_ (by assumption) ?_
        rotate_left
        focus (intro w hSw; obtain ⟨⟨⟨⟨c0, c1⟩, c2, c3⟩, ⟨c4, c5⟩, c6, c7⟩, hB⟩ := hSw; go_simp; first | done | with_reducible rfl | (trace_state; fail))
        try simp only [Act.put, List.setIfInBounds_toArray, List.set_cons_zero, List.set_cons_succ]
        refine H_take (i := 39) (v := ?_) rfl (by kernel_rfl) (by kernel_rfl) (by kernel_rfl) (fun _ _ _ h => h) (by rfl) ?_ (by assumption) ?_
        rotate_left
        focus (intro w hSw; obtain ⟨⟨⟨⟨c0, c1⟩, c2, c3⟩, ⟨c4, c5⟩, c6, c7⟩, hB⟩ := hSw; go_simp; first | done | with_reducible rfl | (trace_state; fail))
        try simp only [Act.put, List.setIfInBounds_toArray, List.set_cons_zero, List.set_cons_succ]
        refine H_take (i := 40) (v := ?_) rfl (by kernel_rfl) (by kernel_rfl) (by kernel_rfl) (fun _ _ _ h => h) (by rfl) ?_ (by assumption) ?_
        rotate_left
        focus (intro w hSw; obtain ⟨⟨⟨⟨c0, c1⟩, c2, c3⟩, ⟨c4, c5⟩, c6, c7⟩, hB⟩ := hSw; go_simp; first | done | with_reducible rfl | (trace_state; fail))
        try simp only [Act.put, List.setIfInBounds_toArray, List.set_cons_zero, List.set_cons_succ]
        refine H_take (i := 42) (v := ?_) rfl (by kernel_rfl) (by kernel_rfl) (by kernel_rfl) (fun _ _ _ h => h) (by rfl) ?_ (by assumption) ?_
        rotate_left
        focus (intro w hSw; obtain ⟨⟨⟨⟨c0, c1⟩, c2, c3⟩, ⟨c4, c5⟩, c6, c7⟩, hB⟩ := hSw; go_simp; first | done | with_reducible rfl | (trace_state; fail))
        try simp only [Act.put, List.setIfInBounds_toArray, List.set_cons_zero, List.set_cons_succ]
        refine H_call (i := 41) rfl (by kernel_rfl) (fun K hK => ?_)
        go_simp
        (go_at_call 15; (with_reducible refine Calls.mono (ValidRated_any a b _) ?_); rw [HV.out]; rintro e v1 ⟨rfl, hb_⟩)
        refine hK.out _ _ ?_ (fun hHeld => ?_)
        focus ((try dsimp only); (first | (exact bx_keep hHeld hb_) | (exact bx_drew HS0.out) | (exact HS0.out)))
        clear hK K
        try simp only [Act.put, List.setIfInBounds_toArray, List.set_cons_zero, List.set_cons_succ]
        refine H_call (i := 43) rfl (by kernel_rfl) (fun K hK => ?_)
        go_simp
        (go_at_call 16; (with_reducible refine Calls.mono (sValidRated_any a b _) ?_); rw [HV.out]; rintro e v1 ⟨rfl, hb_⟩)
        refine hK.out _ _ ?_ (fun hHeld => ?_)
        focus ((try dsimp only); (first | (exact bx_keep hHeld hb_) | (exact bx_drew HS0.out) | (exact HS0.out)))
        clear hK K
        try simp only [Act.put, List.setIfInBounds_toArray, List.set_cons_zero, List.set_cons_succ]
        refine H_take (i := 44) (v := ?_) rfl (by kernel_rfl) (by kernel_rfl) (by kernel_rfl) (fun _ _ _ h => h) (by rfl) ?_ (by assumption) ?_
        rotate_left
        focus (intro w hSw; obtain ⟨⟨⟨⟨c0, c1⟩, c2, c3⟩, ⟨c4, c5⟩, c6, c7⟩, hB⟩ := hSw; go_simp; first | done | with_reducible rfl | (trace_state; fail))
        try simp only [Act.put, List.setIfInBounds_toArray, List.set_cons_zero, List.set_cons_succ]
        refine H_take (i := 45) (v := ?_) rfl (by kernel_rfl) (by kernel_rfl) (by kernel_rfl) (fun _ _ _ h => h) (by rfl) ?_ (by assumption) ?_
        rotate_left
        focus (intro w hSw; obtain ⟨⟨⟨⟨c0, c1⟩, c2, c3⟩, ⟨c4, c5⟩, c6, c7⟩, hB⟩ := hSw; go_simp; first | done | with_reducible rfl | (trace_state; fail))
        try simp only [Act.put, List.setIfInBounds_toArray, List.set_cons_zero, List.set_cons_succ]
        refine wpAnyH_done (by kernel_rfl) ?_ _
        go_wp2_with fail
        go_meet
        exact ⟨rfl, rfl, rfl, hHeld.2⟩
    case true =>
      injection hk with k1 k2
      injection k2 with k2 k3
      subst k1 k2 k3
      have hne : t ≠ ⟨#[]⟩ := fun h => absurd (hem.mp h) (by decide)
      have hz0 : (t.toList == ({ data := #[] } : ByteArray).toList) = false := by rw [beq_eq_false_iff_ne]; intro h; exact hne (toList_inj h)
      have hz1 : (t.toList == []) = false := by rw [beq_eq_false_iff_ne]; intro h; rw [ByteArray.toList_eq] at h; exact hne (by rw [ba_self t, h])
      clear hne
      have e5 : (ok2 != ok2) = false := by cases ok2 <;> rfl
      all_goals
        refine wp_region_held_drew (S := (fun W => (((W.cell? ⟨w1.heap.size, 0, none⟩ = some (.int .i64 a) ∧ W.cell? ⟨w1.heap.size, 1, none⟩ = some (.int .i64 b)) ∧ (W.cell? ⟨w3.heap.size, 0, none⟩ = some (.int .i64 a) ∧ W.cell? ⟨w3.heap.size, 1, none⟩ = some (.int .i64 b))) ∧ ((W.cell? ⟨w5.heap.size, 0, none⟩ = some (.int .i64 m1) ∧ W.cell? ⟨w5.heap.size, 1, none⟩ = some (.int .i64 m2)) ∧ (W.cell? ⟨w6.heap.size, 0, none⟩ = some (.int .i64 m1) ∧ W.cell? ⟨w6.heap.size, 1, none⟩ = some (.int .i64 m2)))) ∧ Below w9.heap.size w9 W)) (by kernel_rfl) ?_ (fun hHeld => ?_)
        focus ((try dsimp only); (first | (exact bx_keep hHeld hb_) | (exact bx_drew HS0.out) | (exact HS0.out)))
        refine H_take (i := 0) (v := ?_) rfl (by kernel_rfl) (by kernel_rfl) (by kernel_rfl) (fun _ _ _ h => h) (by rfl) ?_ (by assumption) ?_
        rotate_left
        focus (intro w hSw; obtain ⟨⟨⟨⟨c0, c1⟩, c2, c3⟩, ⟨c4, c5⟩, c6, c7⟩, hB⟩ := hSw; go_simp; first | done | with_reducible rfl | (trace_state; fail))
        try simp only [Act.put, List.setIfInBounds_toArray, List.set_cons_zero, List.set_cons_succ]
        refine H_take (i := 1) (v := ?_) rfl (by kernel_rfl) (by kernel_rfl) (by kernel_rfl) (fun _ _ _ h => h) (by rfl) ?_ (by assumption) ?_
        rotate_left
        focus (intro w hSw; obtain ⟨⟨⟨⟨c0, c1⟩, c2, c3⟩, ⟨c4, c5⟩, c6, c7⟩, hB⟩ := hSw; go_simp; first | done | with_reducible rfl | (trace_state; fail))
        try simp only [Act.put, List.setIfInBounds_toArray, List.set_cons_zero, List.set_cons_succ]
        refine H_call (i := 2) rfl (by kernel_rfl) (fun K hK => ?_)
        go_simp
        (go_at_call 13; (with_reducible refine Calls.mono (sRatedText_any a b _ HTT.out _) ?_); rintro e v1 ⟨rfl, hb_⟩)
        refine hK.out _ _ ?_ (fun hHeld => ?_)
        focus ((try dsimp only); (first | (exact bx_keep hHeld hb_) | (exact bx_drew HS0.out) | (exact HS0.out)))
        clear hK K
        try simp only [Act.put, List.setIfInBounds_toArray, List.set_cons_zero, List.set_cons_succ]
        refine H_take (i := 3) (v := ?_) rfl (by kernel_rfl) (by kernel_rfl) (by kernel_rfl) (fun _ _ _ h => h) (by rfl) ?_ (by assumption) ?_
        rotate_left
        focus (intro w hSw; obtain ⟨⟨⟨⟨c0, c1⟩, c2, c3⟩, ⟨c4, c5⟩, c6, c7⟩, hB⟩ := hSw; go_simp; first | done | with_reducible rfl | (trace_state; fail))
        try simp only [Act.put, List.setIfInBounds_toArray, List.set_cons_zero, List.set_cons_succ]
        refine H_take (i := 4) (v := ?_) rfl (by kernel_rfl) (by kernel_rfl) (by kernel_rfl) (fun _ _ _ h => h) (by rfl) ?_ (by assumption) ?_
        rotate_left
        focus (intro w hSw; obtain ⟨⟨⟨⟨c0, c1⟩, c2, c3⟩, ⟨c4, c5⟩, c6, c7⟩, hB⟩ := hSw; go_simp; first | done | with_reducible rfl | (trace_state; fail))
        try simp only [Act.put, List.setIfInBounds_toArray, List.set_cons_zero, List.set_cons_succ]
        refine H_take (i := 5) (v := ?_) rfl (by kernel_rfl) (by kernel_rfl) (by kernel_rfl) (fun _ _ _ h => h) (by rfl) ?_ (by assumption) ?_
        rotate_left
        focus (intro w hSw; obtain ⟨⟨⟨⟨c0, c1⟩, c2, c3⟩, ⟨c4, c5⟩, c6, c7⟩, hB⟩ := hSw; go_simp; first | done | with_reducible rfl | (trace_state; fail))
        try simp only [Act.put, List.setIfInBounds_toArray, List.set_cons_zero, List.set_cons_succ]
        refine H_take (i := 6) (v := ?_) rfl (by kernel_rfl) (by kernel_rfl) (by kernel_rfl) (fun _ _ _ h => h) (by rfl) ?_ (by assumption) ?_
        rotate_left
        focus (intro w hSw; obtain ⟨⟨⟨⟨c0, c1⟩, c2, c3⟩, ⟨c4, c5⟩, c6, c7⟩, hB⟩ := hSw; go_simp; first | done | with_reducible rfl | (trace_state; fail))
        try simp only [Act.put, List.setIfInBounds_toArray, List.set_cons_zero, List.set_cons_succ]
        refine H_take (i := 7) (v := ?_) rfl (by kernel_rfl) (by kernel_rfl) (by kernel_rfl) (fun _ _ _ h => h) (by rfl) ?_ (by assumption) ?_
        rotate_left
        focus (intro w hSw; obtain ⟨⟨⟨⟨c0, c1⟩, c2, c3⟩, ⟨c4, c5⟩, c6, c7⟩, hB⟩ := hSw; go_simp; first | done | with_reducible rfl | (trace_state; fail))
        try simp only [Act.put, List.setIfInBounds_toArray, List.set_cons_zero, List.set_cons_succ]
        refine H_take (i := 8) (v := ?_) rfl (by kernel_rfl) (by kernel_rfl) (by kernel_rfl) (fun _ _ _ h => h) (by rfl) ?_ (by assumption) ?_
        rotate_left
        focus (intro w hSw; obtain ⟨⟨⟨⟨c0, c1⟩, c2, c3⟩, ⟨c4, c5⟩, c6, c7⟩, hB⟩ := hSw; go_simp; first | done | with_reducible rfl | (trace_state; fail))
        try simp only [Act.put, List.setIfInBounds_toArray, List.set_cons_zero, List.set_cons_succ]
        refine H_take (i := 9) (v := ?_) rfl (by kernel_rfl) (by kernel_rfl) (by kernel_rfl) (fun _ _ _ h => h) (by rfl) ?_ (by assumption) ?_
        rotate_left
        focus (intro w hSw; obtain ⟨⟨⟨⟨c0, c1⟩, c2, c3⟩, ⟨c4, c5⟩, c6, c7⟩, hB⟩ := hSw; go_simp; first | done | with_reducible rfl | (trace_state; fail))
        try simp only [Act.put, List.setIfInBounds_toArray, List.set_cons_zero, List.set_cons_succ]
        refine H_take (i := 10) (v := ?_) rfl (by kernel_rfl) (by kernel_rfl) (by kernel_rfl) (fun _ _ _ h => h) (by rfl) ?_ (by assumption) ?_
        rotate_left
        focus (intro w hSw; obtain ⟨⟨⟨⟨c0, c1⟩, c2, c3⟩, ⟨c4, c5⟩, c6, c7⟩, hB⟩ := hSw; go_simp; first | done | with_reducible rfl | (trace_state; fail))
        try simp only [Act.put, List.setIfInBounds_toArray, List.set_cons_zero, List.set_cons_succ]
        refine H_take (i := 11) (v := ?_) rfl (by kernel_rfl) (by kernel_rfl) (by kernel_rfl) (fun _ _ _ h => h) (by rfl) ?_ (by assumption) ?_
        rotate_left
        focus (intro w hSw; obtain ⟨⟨⟨⟨c0, c1⟩, c2, c3⟩, ⟨c4, c5⟩, c6, c7⟩, hB⟩ := hSw; go_simp; first | done | with_reducible rfl | (trace_state; fail))
        try simp only [Act.put, List.setIfInBounds_toArray, List.set_cons_zero, List.set_cons_succ]
        refine H_take (i := 12) (v := ?_) rfl (by kernel_rfl) (by kernel_rfl) (by kernel_rfl) (fun _ _ _ h => h) (by rfl) ?_ (by assumption) ?_
        rotate_left
        focus (intro w hSw; obtain ⟨⟨⟨⟨c0, c1⟩, c2, c3⟩, ⟨c4, c5⟩, c6, c7⟩, hB⟩ := hSw; go_simp; first | done | with_reducible rfl | (trace_state; fail))
        try simp only [Act.put, List.setIfInBounds_toArray, List.set_cons_zero, List.set_cons_succ]
        refine H_take (i := 13) (v := ?_) rfl (by kernel_rfl) (by kernel_rfl) (by kernel_rfl) (fun _ _ _ h => h) (by rfl) ?_ (by assumption) ?_
        rotate_left
        focus (intro w hSw; obtain ⟨⟨⟨⟨c0, c1⟩, c2, c3⟩, ⟨c4, c5⟩, c6, c7⟩, hB⟩ := hSw; go_simp; first | done | with_reducible rfl | (trace_state; fail))
        try simp only [Act.put, List.setIfInBounds_toArray, List.set_cons_zero, List.set_cons_succ]
        refine H_take (i := 14) (v := ?_) rfl (by kernel_rfl) (by kernel_rfl) (by kernel_rfl) (fun _ _ _ h => h) (by rfl) ?_ (by assumption) ?_
        rotate_left
        focus (intro w hSw; obtain ⟨⟨⟨⟨c0, c1⟩, c2, c3⟩, ⟨c4, c5⟩, c6, c7⟩, hB⟩ := hSw; go_simp; first | done | with_reducible rfl | (trace_state; fail))
        try simp only [Act.put, List.setIfInBounds_toArray, List.set_cons_zero, List.set_cons_succ]
        refine H_take (i := 15) (v := ?_) rfl (by kernel_rfl) (by kernel_rfl) (by kernel_rfl) (fun _ _ _ h => h) (by rfl) ?_ (by assumption) ?_
        rotate_left
        focus (intro w hSw; obtain ⟨⟨⟨⟨c0, c1⟩, c2, c3⟩, ⟨c4, c5⟩, c6, c7⟩, hB⟩ := hSw; go_simp; first | done | with_reducible rfl | (trace_state; fail))
        try simp only [Act.put, List.setIfInBounds_toArray, List.set_cons_zero, List.set_cons_succ]
        refine H_take (i := 16) (v := ?_) rfl (by kernel_rfl) (by kernel_rfl) (by kernel_rfl) (fun _ _ _ h => h) (by rfl) ?_ (by assumption) ?_
        rotate_left
        focus (intro w hSw; obtain ⟨⟨⟨⟨c0, c1⟩, c2, c3⟩, ⟨c4, c5⟩, c6, c7⟩, hB⟩ := hSw; go_simp; first | done | with_reducible rfl | (trace_state; fail))
        try simp only [Act.put, List.setIfInBounds_toArray, List.set_cons_zero, List.set_cons_succ]
        refine H_take (i := 17) (v := ?_) rfl (by kernel_rfl) (by kernel_rfl) (by kernel_rfl) (fun _ _ _ h => h) (by rfl) ?_ (by assumption) ?_
        rotate_left
        focus (intro w hSw; obtain ⟨⟨⟨⟨c0, c1⟩, c2, c3⟩, ⟨c4, c5⟩, c6, c7⟩, hB⟩ := hSw; go_simp; first | done | with_reducible rfl | (trace_state; fail))
        try simp only [Act.put, List.setIfInBounds_toArray, List.set_cons_zero, List.set_cons_succ]
        refine H_take (i := 18) (v := ?_) rfl (by kernel_rfl) (by kernel_rfl) (by kernel_rfl) (fun _ _ _ h => h) (by rfl) ?_ (by assumption) ?_
        rotate_left
        focus (intro w hSw; obtain ⟨⟨⟨⟨c0, c1⟩, c2, c3⟩, ⟨c4, c5⟩, c6, c7⟩, hB⟩ := hSw; go_simp; first | done | with_reducible rfl | (trace_state; fail))
        try simp only [Act.put, List.setIfInBounds_toArray, List.set_cons_zero, List.set_cons_succ]
        refine H_take (i := 19) (v := ?_) rfl (by kernel_rfl) (by kernel_rfl) (by kernel_rfl) (fun _ _ _ h => h) (by rfl) ?_ (by assumption) ?_
        rotate_left
        focus (intro w hSw; obtain ⟨⟨⟨⟨c0, c1⟩, c2, c3⟩, ⟨c4, c5⟩, c6, c7⟩, hB⟩ := hSw; go_simp; first | done | with_reducible rfl | (trace_state; fail))
        try simp only [Act.put, List.setIfInBounds_toArray, List.set_cons_zero, List.set_cons_succ]
        refine H_take (i := 20) (v := ?_) rfl (by kernel_rfl) (by kernel_rfl) (by kernel_rfl) (fun _ _ _ h => h) (by rfl) ?_ (by assumption) ?_
        rotate_left
        focus (intro w hSw; obtain ⟨⟨⟨⟨c0, c1⟩, c2, c3⟩, ⟨c4, c5⟩, c6, c7⟩, hB⟩ := hSw; go_simp; first | done | with_reducible rfl | (trace_state; fail))
        try simp only [Act.put, List.setIfInBounds_toArray, List.set_cons_zero, List.set_cons_succ]
        refine H_take (i := 21) (v := ?_) rfl (by kernel_rfl) (by kernel_rfl) (by kernel_rfl) (fun _ _ _ h => h) (by rfl) ?_ (by assumption) ?_
        rotate_left
        focus (intro w hSw; obtain ⟨⟨⟨⟨c0, c1⟩, c2, c3⟩, ⟨c4, c5⟩, c6, c7⟩, hB⟩ := hSw; go_simp; first | done | with_reducible rfl | (trace_state; fail))
        try simp only [Act.put, List.setIfInBounds_toArray, List.set_cons_zero, List.set_cons_succ]
        refine H_take (i := 22) (v := ?_) rfl (by kernel_rfl) (by kernel_rfl) (by kernel_rfl) (fun _ _ _ h => h) (by rfl) ?_ (by assumption) ?_
        rotate_left
        focus (intro w hSw; obtain ⟨⟨⟨⟨c0, c1⟩, c2, c3⟩, ⟨c4, c5⟩, c6, c7⟩, hB⟩ := hSw; go_simp; first | done | with_reducible rfl | (trace_state; fail))
        try simp only [Act.put, List.setIfInBounds_toArray, List.set_cons_zero, List.set_cons_succ]
        refine H_take (i := 23) (v := ?_) rfl (by kernel_rfl) (by kernel_rfl) (by kernel_rfl) (fun _ _ _ h => h) (by rfl) ?_ (by assumption) ?_
        rotate_left
        focus (intro w hSw; obtain ⟨⟨⟨⟨c0, c1⟩, c2, c3⟩, ⟨c4, c5⟩, c6, c7⟩, hB⟩ := hSw; go_simp; first | done | with_reducible rfl | (trace_state; fail))
        try simp only [Act.put, List.setIfInBounds_toArray, List.set_cons_zero, List.set_cons_succ]
        refine H_take (i := 24) (v := ?_) rfl (by kernel_rfl) (by kernel_rfl) (by kernel_rfl) (fun _ _ _ h => h) (by rfl) ?_ (by assumption) ?_
        rotate_left
        focus (intro w hSw; obtain ⟨⟨⟨⟨c0, c1⟩, c2, c3⟩, ⟨c4, c5⟩, c6, c7⟩, hB⟩ := hSw; go_simp; first | done | with_reducible rfl | (trace_state; fail))
        try simp only [Act.put, List.setIfInBounds_toArray, List.set_cons_zero, List.set_cons_succ]
        refine H_take (i := 25) (v := ?_) rfl (by kernel_rfl) (by kernel_rfl) (by kernel_rfl) (fun _ _ _ h => h) (by rfl) ?_ (by assumption) ?_
        rotate_left
        focus (intro w hSw; obtain ⟨⟨⟨⟨c0, c1⟩, c2, c3⟩, ⟨c4, c5⟩, c6, c7⟩, hB⟩ := hSw; go_simp; first | done | with_reducible rfl | (trace_state; fail))
        try simp only [Act.put, List.setIfInBounds_toArray, List.set_cons_zero, List.set_cons_succ]
        refine H_take (i := 26) (v := ?_) rfl (by kernel_rfl) (by kernel_rfl) (by kernel_rfl) (fun _ _ _ h => h) (by rfl) ?_ (by assumption) ?_
        rotate_left
        focus (intro w hSw; obtain ⟨⟨⟨⟨c0, c1⟩, c2, c3⟩, ⟨c4, c5⟩, c6, c7⟩, hB⟩ := hSw; go_simp; first | done | with_reducible rfl | (trace_state; fail))
        try simp only [Act.put, List.setIfInBounds_toArray, List.set_cons_zero, List.set_cons_succ]
        refine H_take (i := 27) (v := ?_) rfl (by kernel_rfl) (by kernel_rfl) (by kernel_rfl) (fun _ _ _ h => h) (by rfl) ?_ (by assumption) ?_
        rotate_left
        focus (intro w hSw; obtain ⟨⟨⟨⟨c0, c1⟩, c2, c3⟩, ⟨c4, c5⟩, c6, c7⟩, hB⟩ := hSw; go_simp; first | done | with_reducible rfl | (trace_state; fail))
        try simp only [Act.put, List.setIfInBounds_toArray, List.set_cons_zero, List.set_cons_succ]
        refine H_take (i := 28) (v := ?_) rfl (by kernel_rfl) (by kernel_rfl) (by kernel_rfl) (fun _ _ _ h => h) (by rfl) ?_ (by assumption) ?_
        rotate_left
        focus (intro w hSw; obtain ⟨⟨⟨⟨c0, c1⟩, c2, c3⟩, ⟨c4, c5⟩, c6, c7⟩, hB⟩ := hSw; go_simp; first | done | with_reducible rfl | (trace_state; fail))
        try simp only [Act.put, List.setIfInBounds_toArray, List.set_cons_zero, List.set_cons_succ]
        refine H_take (i := 29) (v := ?_) rfl (by kernel_rfl) (by kernel_rfl) (by kernel_rfl) (fun _ _ _ h => h) (by rfl) ?_ (by assumption) ?_
        rotate_left
        focus (intro w hSw; obtain ⟨⟨⟨⟨c0, c1⟩, c2, c3⟩, ⟨c4, c5⟩, c6, c7⟩, hB⟩ := hSw; go_simp; first | done | with_reducible rfl | (trace_state; fail))
        try simp only [Act.put, List.setIfInBounds_toArray, List.set_cons_zero, List.set_cons_succ]
        refine H_take (i := 30) (v := ?_) rfl (by kernel_rfl) (by kernel_rfl) (by kernel_rfl) (fun _ _ _ h => h) (by rfl) ?_ (by assumption) ?_
        rotate_left
        focus (intro w hSw; obtain ⟨⟨⟨⟨c0, c1⟩, c2, c3⟩, ⟨c4, c5⟩, c6, c7⟩, hB⟩ := hSw; go_simp; first | done | with_reducible rfl | (trace_state; fail))
        try simp only [Act.put, List.setIfInBounds_toArray, List.set_cons_zero, List.set_cons_succ]
        refine H_take (i := 31) (v := ?_) rfl (by kernel_rfl) (by kernel_rfl) (by kernel_rfl) (fun _ _ _ h => h) (by rfl) ?_ (by assumption) ?_
        rotate_left
        focus (intro w hSw; obtain ⟨⟨⟨⟨c0, c1⟩, c2, c3⟩, ⟨c4, c5⟩, c6, c7⟩, hB⟩ := hSw; go_simp; first | done | with_reducible rfl | (trace_state; fail))
        try simp only [Act.put, List.setIfInBounds_toArray, List.set_cons_zero, List.set_cons_succ]
        refine H_take (i := 32) (v := ?_) rfl (by kernel_rfl) (by kernel_rfl) (by kernel_rfl) (fun _ _ _ h => h) (by rfl) ?_ (by assumption) ?_
        rotate_left
        focus (intro w hSw; obtain ⟨⟨⟨⟨c0, c1⟩, c2, c3⟩, ⟨c4, c5⟩, c6, c7⟩, hB⟩ := hSw; go_simp; first | done | with_reducible rfl | (trace_state; fail))
        try simp only [Act.put, List.setIfInBounds_toArray, List.set_cons_zero, List.set_cons_succ]
        refine H_take (i := 33) (v := ?_) rfl (by kernel_rfl) (by kernel_rfl) (by kernel_rfl) (fun _ _ _ h => h) (by rfl) ?_ (by assumption) ?_
        rotate_left
        focus (intro w hSw; obtain ⟨⟨⟨⟨c0, c1⟩, c2, c3⟩, ⟨c4, c5⟩, c6, c7⟩, hB⟩ := hSw; go_simp; first | done | with_reducible rfl | (trace_state; fail))
        try simp only [Act.put, List.setIfInBounds_toArray, List.set_cons_zero, List.set_cons_succ]
        refine H_take (i := 34) (v := ?_) rfl (by kernel_rfl) (by kernel_rfl) (by kernel_rfl) (fun _ _ _ h => h) (by rfl) ?_ (by assumption) ?_
        rotate_left
        focus (intro w hSw; obtain ⟨⟨⟨⟨c0, c1⟩, c2, c3⟩, ⟨c4, c5⟩, c6, c7⟩, hB⟩ := hSw; go_simp; first | done | with_reducible rfl | (trace_state; fail))
        try simp only [Act.put, List.setIfInBounds_toArray, List.set_cons_zero, List.set_cons_succ]
        refine H_take (i := 35) (v := ?_) rfl (by kernel_rfl) (by kernel_rfl) (by kernel_rfl) (fun _ _ _ h => h) (by rfl) ?_ (by assumption) ?_
        rotate_left
        focus (intro w hSw; obtain ⟨⟨⟨⟨c0, c1⟩, c2, c3⟩, ⟨c4, c5⟩, c6, c7⟩, hB⟩ := hSw; go_simp; first | done | with_reducible rfl | (trace_state; fail))
        try simp only [Act.put, List.setIfInBounds_toArray, List.set_cons_zero, List.set_cons_succ]
        refine H_call (i := 36) rfl (by kernel_rfl) (fun K hK => ?_)
        go_simp
        (go_at_call 14; (with_reducible refine Calls.mono (f6ints_sameR A2 A3 q cp2 cp3 l _ (Q1.out.later hHeld.2) (Q2.out.later hHeld.2) (by omega)) ?_); rintro e v1 ⟨rfl, hb_⟩)
        refine hK.out _ _ ?_ (fun hHeld => ?_)
        focus ((try dsimp only); (first | (exact bx_keep hHeld hb_) | (exact bx_drew HS0.out) | (exact HS0.out)))
        clear hK K
        try simp only [Act.put, List.setIfInBounds_toArray, List.set_cons_zero, List.set_cons_succ]
        refine H_take (i := 37) (v := ?_) rfl (by kernel_rfl) (by kernel_rfl) (by kernel_rfl) (fun _ _ _ h => h) (by rfl) ?_ (by assumption) ?_
        rotate_left
        focus (intro w hSw; obtain ⟨⟨⟨⟨c0, c1⟩, c2, c3⟩, ⟨c4, c5⟩, c6, c7⟩, hB⟩ := hSw; go_simp; first | done | with_reducible rfl | (trace_state; fail))
        try simp only [Act.put, List.setIfInBounds_toArray, List.set_cons_zero, List.set_cons_succ]
        refine H_take (i := 38) (v := ?_) rfl (by kernel_rfl) (by kernel_rfl) (by kernel_rfl) (fun _ _ _ h => h) (by rfl) ?_ (by assumption) ?_
        rotate_left
        focus (intro w hSw; obtain ⟨⟨⟨⟨c0, c1⟩, c2, c3⟩, ⟨c4, c5⟩, c6, c7⟩, hB⟩ := hSw; go_simp; first | done | with_reducible rfl | (trace_state; fail))
        try simp only [Act.put, List.setIfInBounds_toArray, List.set_cons_zero, List.set_cons_succ]
        refine H_take (i := 39) (v := ?_) rfl (by kernel_rfl) (by kernel_rfl) (by kernel_rfl) (fun _ _ _ h => h) (by rfl) ?_ (by assumption) ?_
        rotate_left
        focus (intro w hSw; obtain ⟨⟨⟨⟨c0, c1⟩, c2, c3⟩, ⟨c4, c5⟩, c6, c7⟩, hB⟩ := hSw; go_simp; first | done | with_reducible rfl | (trace_state; fail))
        try simp only [Act.put, List.setIfInBounds_toArray, List.set_cons_zero, List.set_cons_succ]
        refine H_take (i := 40) (v := ?_) rfl (by kernel_rfl) (by kernel_rfl) (by kernel_rfl) (fun _ _ _ h => h) (by rfl) ?_ (by assumption) ?_
        rotate_left
        focus (intro w hSw; obtain ⟨⟨⟨⟨c0, c1⟩, c2, c3⟩, ⟨c4, c5⟩, c6, c7⟩, hB⟩ := hSw; go_simp; first | done | with_reducible rfl | (trace_state; fail))
        try simp only [Act.put, List.setIfInBounds_toArray, List.set_cons_zero, List.set_cons_succ]
        refine H_take (i := 42) (v := ?_) rfl (by kernel_rfl) (by kernel_rfl) (by kernel_rfl) (fun _ _ _ h => h) (by rfl) ?_ (by assumption) ?_
        rotate_left
        focus (intro w hSw; obtain ⟨⟨⟨⟨c0, c1⟩, c2, c3⟩, ⟨c4, c5⟩, c6, c7⟩, hB⟩ := hSw; go_simp; first | done | with_reducible rfl | (trace_state; fail))
        try simp only [Act.put, List.setIfInBounds_toArray, List.set_cons_zero, List.set_cons_succ]
        refine H_call (i := 41) rfl (by kernel_rfl) (fun K hK => ?_)
        go_simp
        (go_at_call 15; (with_reducible refine Calls.mono (ValidRated_any a b _) ?_); rw [HV.out]; rintro e v1 ⟨rfl, hb_⟩)
        refine hK.out _ _ ?_ (fun hHeld => ?_)
        focus ((try dsimp only); (first | (exact bx_keep hHeld hb_) | (exact bx_drew HS0.out) | (exact HS0.out)))
        clear hK K
        try simp only [Act.put, List.setIfInBounds_toArray, List.set_cons_zero, List.set_cons_succ]
        refine H_call (i := 43) rfl (by kernel_rfl) (fun K hK => ?_)
        go_simp
        (go_at_call 16; (with_reducible refine Calls.mono (sValidRated_any a b _) ?_); rw [HV.out]; rintro e v1 ⟨rfl, hb_⟩)
        refine hK.out _ _ ?_ (fun hHeld => ?_)
        focus ((try dsimp only); (first | (exact bx_keep hHeld hb_) | (exact bx_drew HS0.out) | (exact HS0.out)))
        clear hK K
        try simp only [Act.put, List.setIfInBounds_toArray, List.set_cons_zero, List.set_cons_succ]
        refine H_take (i := 44) (v := ?_) rfl (by kernel_rfl) (by kernel_rfl) (by kernel_rfl) (fun _ _ _ h => h) (by rfl) ?_ (by assumption) ?_
        rotate_left
        focus (intro w hSw; obtain ⟨⟨⟨⟨c0, c1⟩, c2, c3⟩, ⟨c4, c5⟩, c6, c7⟩, hB⟩ := hSw; go_simp; first | done | with_reducible rfl | (trace_state; fail))
        try simp only [Act.put, List.setIfInBounds_toArray, List.set_cons_zero, List.set_cons_succ]
        refine H_take (i := 45) (v := ?_) rfl (by kernel_rfl) (by kernel_rfl) (by kernel_rfl) (fun _ _ _ h => h) (by rfl) ?_ (by assumption) ?_
        rotate_left
        focus (intro w hSw; obtain ⟨⟨⟨⟨c0, c1⟩, c2, c3⟩, ⟨c4, c5⟩, c6, c7⟩, hB⟩ := hSw; go_simp; first | done | with_reducible rfl | (trace_state; fail))
        try simp only [Act.put, List.setIfInBounds_toArray, List.set_cons_zero, List.set_cons_succ]
        refine wpAnyH_done (by kernel_rfl) ?_ _
        go_wp2_with fail
        go_meet
        exact ⟨rfl, rfl, rfl, hHeld.2⟩
  case rest =>
  obtain ⟨rfl, rfl, rfl, hbx⟩ := hcut
  rename World => wx
  have BX := Lib.hid hbx
  have U1 := Lib.hid (S3.out.later hbx)
  have U2 := Lib.hid (Q1.out.later hbx)
  clear hbx e1 e4 HS0 Q1 Q2 S3 B1 BX1 B2 B3 BX3 B4 B5 BX5 N5 B6 BX6 N6 B7 B8
  go_wp2_with fail
  go_loopw [17] (fun v wr => ∃ i : Nat, 1 ≤ i ∧ i ≤ q + 1 ∧ v = .int .i64 i ∧ Below wx.heap.size wx wr) (fun v _ => q + 1 - (intOf v).toNat)
  case atStart => exact ⟨1, Nat.le_refl _, by omega, rfl, Below.refl _ _⟩
  case round =>
    obtain ⟨i, hi1, hi, rfl, hbl⟩ := hrel
    rename World => wo
    have HBL := Lib.hid hbl
    have hzo := hbl.size
    by_cases hlt : i < q
    · obtain ⟨p, hp⟩ : ∃ p, i - 1 = p := ⟨_, rfl⟩
      have HP := Lib.hid hp
      have hwp : IntKind.i64.wrap ((i : Int) - 1) = (p : Int) := by rw [IntWalk.i64_in _ (by omega)]; omega
      obtain ⟨X, Y, hX, hY, hXn, hYn, hle, heq⟩ := ro_facts HR.out (show p + 1 = i by omega) hlt
      have hpq : p < q := by omega
      obtain ⟨b2, o2, z, rfl, hb2, hz, hc2⟩ := (U2.out.later hbl).int hpq
      obtain ⟨b2', o2', z', e2, hb2', hz', hc2'⟩ := (U2.out.later hbl).int hlt
      injection e2 with e2
      injection e2 with e21 e22 _
      subst e21 e22
      have hzX : z = X := by rw [← hz.out]; exact hX
      have hzY : z' = Y := by rw [← hz'.out]; exact hY
      subst hzX hzY
      obtain ⟨b1, o1, ra, ga, rfl, hb1, hra, -, ha0, ha1⟩ := (U1.out.later hbl).duo hXn
      obtain ⟨b1', o1', rb, gb, e3, hb1', hrb, -, hb0, hb1x⟩ := (U1.out.later hbl).duo hYn
      injection e3 with e3
      injection e3 with e31 e32 _
      subst e31 e32
      rw [hra.out, hrb.out] at hle heq
      have hlt2 : decide (ra < rb) = false := decide_eq_false (by omega)
      have HD := Lib.hid heq
      have hl1 := cell_lt ha0
      have hl2 := cell_lt hc2
      clear hX hY hle heq hp hbl hz hz' hra hrb
      cases hq : (ra == rb)
      case false =>
        go_wp2_with fail
        first | (refine wp_region_quiet_lit (by kernel_rfl) (by kernel_rfl) ?_; refine WQ.of ?_; (repeat (refine WQ.step (fun K hK => ?_); go_simp; first | (refine hK _ ?_; clear hK K) | (apply Exists.intro; refine ⟨fun _ => ?_, hK _ ?_⟩; (fail); clear hK K))); refine WQ.nil ?_; intro _ hw'; obtain ⟨nq, hw''⟩ := hw'; subst hw'') | go_quiet (fail)
        go_wp2_with fail
        go_roundw
        case rel => exact ⟨i + 1, by omega, by omega, by go_num, by have := HBL.out; (repeat' (first | (with_reducible exact Below.refl _ _) | (with_reducible assumption) | (with_reducible refine Below.alloc ?_ ?_ _) | (with_reducible refine Below.drew ?_) | (with_reducible refine belowDrewN ?_ _) | (with_reducible refine Below.setCell ?_ ?_ _) | (with_reducible refine Below.via (by with_reducible assumption) ?_ ?_) | (with_reducible refine Below.viaD (by with_reducible assumption) ?_ ?_) | (with_reducible exact Below.size (by with_reducible assumption)) | go_size | (with_reducible refine Nat.le_trans ?_ (Below.size (by with_reducible assumption))) | (with_reducible refine Nat.le_trans ?_ (sizeAlloc _ _)) | (with_reducible refine Nat.le_trans ?_ (sizeSet _ _ _)) | (with_reducible refine Nat.le_trans ?_ (sizeDrew _))))⟩
        case measure => first | (simp [intOf]; done) | (simp [intOf]; omega)
      case true =>
        have hXY : X < Y := HD.out (eq_of_beq hq)
        have hge : decide ((Y : Int) ≤ (X : Int)) = false := decide_eq_false (by omega)
        go_wp2_with fail
        first | (refine wp_region_quiet_lit (by kernel_rfl) (by kernel_rfl) ?_; refine WQ.of ?_; (repeat (refine WQ.step (fun K hK => ?_); go_simp; first | (refine hK _ ?_; clear hK K) | (apply Exists.intro; refine ⟨fun _ => ?_, hK _ ?_⟩; (fail); clear hK K))); refine WQ.nil ?_; intro _ hw'; obtain ⟨nq, hw''⟩ := hw'; subst hw'') | go_quiet (fail)
        go_wp2_with fail
        go_roundw
        case rel => exact ⟨i + 1, by omega, by omega, by go_num, by have := HBL.out; (repeat' (first | (with_reducible exact Below.refl _ _) | (with_reducible assumption) | (with_reducible refine Below.alloc ?_ ?_ _) | (with_reducible refine Below.drew ?_) | (with_reducible refine belowDrewN ?_ _) | (with_reducible refine Below.setCell ?_ ?_ _) | (with_reducible refine Below.via (by with_reducible assumption) ?_ ?_) | (with_reducible refine Below.viaD (by with_reducible assumption) ?_ ?_) | (with_reducible exact Below.size (by with_reducible assumption)) | go_size | (with_reducible refine Nat.le_trans ?_ (Below.size (by with_reducible assumption))) | (with_reducible refine Nat.le_trans ?_ (sizeAlloc _ _)) | (with_reducible refine Nat.le_trans ?_ (sizeSet _ _ _)) | (with_reducible refine Nat.le_trans ?_ (sizeDrew _))))⟩
        case measure => first | (simp [intOf]; done) | (simp [intOf]; omega)
    · have HBX := Lib.hid (Below.via HBL.out BX.out BX.out.size)
      go_wp2_with fail
      go_ret
      exact ⟨rfl, Below.via HBX.out B9.out B9.out.size⟩
end Go.Proofs.YteeplmnjipddaaaDoor
