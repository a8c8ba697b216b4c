/- FnCaptures: the law. No conditions. -/
import Derived.Test.YtcfbihponecblaaG13
import Derived.Test.YtcfbihponecblaaG23
import Derived.Deep.DeepCutAuto
namespace Go.Proofs.Ytcfbihponecblaa
set_option linter.unusedSimpArgs false
set_option linter.unusedVariables false
open Go.RowKit Go.WideShapes

def LongQ (n : Nat) (w : World) (e : Ending) (w' : World) : Prop := ∃ q, e = .returned (.bool q) ∧ (q = false → n ≤ 3000) ∧ w = w'
set_option maxHeartbeats 1000000 in
theorem a2LongC (A : Option Addr) (n c : Nat) (w : World) : Calls Try.prog 4 #[.slice A n c, .slice none 0 0] w (LongQ n w) := by
  by_cases h1 : 3000 < n
  case pos =>
    have h2 : (3000 : Int) < (n : Int) := by omega
    go_enter Try.func4, Try.ntmps4
    go_wp2
    go_ret
    exact ⟨true, rfl, fun h => by simp at h, rfl⟩
  case neg =>
    have h2 : ¬ (3000 : Int) < (n : Int) := by omega
    go_enter Try.func4, Try.ntmps4
    go_wp2
    go_ret
    exact ⟨false, rfl, fun _ => by omega, rfl⟩
theorem info_boolC : (Try.prog.info? 4).map (fun i => (i.zero, i.size, i.bytes)) = some (some (.bool false), 1, 1) := by kernel_rfl
/-- Marks as cells. -/
def tkA (n : Nat) (l : List Int) (i : Nat) : Array Value := ((tkL n l i).map Value.bool).toArray
theorem tkA_zero (l : List Int) (n : Nat) : madeCells (Value.bool false).cells (n * 1) = tkA n l 0 := by
  show madeCells #[Value.bool false] (n * 1) = _
  rw [made_one, Nat.mul_one, tkA, tkL, List.map_replicate]
theorem tkA_at {n i m : Nat} {l : List Int} {b : Bool} (hm : m < n) (h : (tkL n l i).getD m false = b) : (tkA n l i)[m]? = some (.bool b) := by
  have hl : m < (tkL n l i).length := by rw [tkL_len]; exact hm
  rw [tkA, List.getElem?_toArray, List.getElem?_map, List.getElem?_eq_getElem hl, ← h, List.getD_eq_getElem?_getD, List.getElem?_eq_getElem hl]
  rfl
theorem tkA_set {n i m : Nat} {l : List Int} (h : l.getD i 0 = (m : Int)) : (tkA n l i).setIfInBounds m (.bool true) = tkA n l (i + 1) := by
  rw [tkA, tkA, tkL, h, Int.toNat_natCast, List.setIfInBounds_toArray, List.map_set]
theorem capF_round {P p N : Nat} {r : Ru} {d d' : SownD} {l : List Int} {v : Int} (h : CapF P p r d l v d') (hN : N = 2 * P) {i : Nat} (hi : i < l.length) : ∃ m : Nat, l.getD i 0 = (m : Int) ∧ m < N ∧ (tkL N l i).getD m false = false ∧ gainV d.pits l (i + 1) = gainV d.pits l i + d.pits.getD m 0 ∧ 0 ≤ gainV d.pits l i ∧ gainV d.pits l i ≤ 1536 ∧ 0 ≤ d.pits.getD m 0 ∧ d.pits.getD m 0 ≤ 96 := by
  subst hN
  obtain ⟨m, e, hm⟩ := h.hi.2 i hi
  have h1 := tkL_new h.hi h.nd hi i (Nat.le_refl _)
  rw [e, Int.toNat_natCast] at h1
  have h2 := gainV_bd h.op h.np h.hi i (by omega)
  have h3 := okL_bd h.op (show m < d.pits.length by rw [h.np]; exact hm)
  have h4 := h.hi.1
  have h5 := h.h8
  exact ⟨m, e, hm, h1, by rw [gainV, e, Int.toNat_natCast], h2.1, by omega, h3.1, h3.2⟩
theorem capF_end {P p N : Nat} {r : Ru} {d d' : SownD} {l : List Int} {v : Int} (h : CapF P p r d l v d') (hN : N = 2 * P) (k : Nat) : ((tkL N l l.length).getD k false = true → d'.pits.getD k 0 = 0) ∧ ((tkL N l l.length).getD k false = false → d'.pits.getD k 0 = d.pits.getD k 0) := by
  subst hN
  rw [h.tp]
  exact tkL_pits h.np h.hi _ (Nat.le_refl _) k
theorem b2_keep {w W W' : World} {x y : Nat} {t : TypeId} {c1 c2 : Array Value} (H : (Blk W x t c1 ∧ Blk W y t c2) ∧ Below w.heap.size w W) (hb : Below W.heap.size W W') : (Blk W' x t c1 ∧ Blk W' y t c2) ∧ Below w.heap.size w W' :=
  ⟨⟨H.1.1.later hb, H.1.2.later hb⟩, H.2.trans (hb.mono H.2.size)⟩
theorem b2_drew {w W : World} {x y : Nat} {t : TypeId} {c1 c2 : Array Value} (H : (Blk W x t c1 ∧ Blk W y t c2) ∧ Below w.heap.size w W) : (Blk W.drew x t c1 ∧ Blk W.drew y t c2) ∧ Below w.heap.size w W.drew := ⟨⟨H.1.1, H.1.2⟩, Below.drew H.2⟩
set_option maxRecDepth 20000 in
set_option maxHeartbeats 4000000 in
theorem fnCaptures_walk (A : Option Addr) (n c : Nat) (cs : List Int) (w : World) (hs : Sl w w.heap.size 1 A n (cs.map (Value.int .u8))) (hm : n ≤ 9223372036854775807) (hb : ∀ z ∈ cs, 0 ≤ z ∧ z ≤ 255) :
    Calls Try.prog 3 #[.slice A n c] w fun e w' => e = .returned (.bool true) ∧ Below w.heap.size w w' := by
  obtain ⟨i0, hi, hz0, hz1, hz2⟩ := info_parts info_boolC
  have HI := Lib.hid (And.intro hi (And.intro hz0 (And.intro hz1 hz2)))
  clear hi hz0 hz1 hz2
  have HS := Lib.hid hs
  have HB := Lib.hid hb
  clear hs hb
  go_enter Try.func3, Try.ntmps3
  go_wp2_with fail
  refine (a2LongC _ _ _ _).mono ?_
  rintro e w_ ⟨q, rfl, hq, rfl⟩
  cases q
  case true =>
    go_wp2_with fail
    go_ret
    exact ⟨rfl, by (repeat' (first | (with_reducible exact Below.refl _ _) | (with_reducible assumption) | (with_reducible refine Below.alloc ?_ ?_ _) | (with_reducible refine Below.drew ?_) | (with_reducible refine belowDrewN ?_ _) | (with_reducible refine Below.setCell ?_ ?_ _) | (with_reducible refine Below.via (by with_reducible assumption) ?_ ?_) | (with_reducible refine Below.viaD (by with_reducible assumption) ?_ ?_) | (with_reducible exact Below.size (by with_reducible assumption)) | go_size | (with_reducible refine Nat.le_trans ?_ (Below.size (by with_reducible assumption))) | (with_reducible refine Nat.le_trans ?_ (sizeAlloc _ _)) | (with_reducible refine Nat.le_trans ?_ (sizeSet _ _ _)) | (with_reducible refine Nat.le_trans ?_ (sizeDrew _))))⟩
  case false =>
  have hn := hq rfl
  clear hq
  go_wp2_with fail
  refine (A2Sown_any A n c cs _ HS.out HB.out (by omega)).mono ?_
  rintro e w1 ⟨r, A1, A2, n1, c1, c2, d, pl, rfl, hok, h16, hc1, hcm, Sa, Sb, h1⟩
  obtain ⟨P, p, l, v, d', rfl, hpit, hgain, htake, hF⟩ := capF_of hok
  have hn1 : n1 = 2 * P := by have h2 := Sa.ints; rw [hF.np] at h2; omega
  have hlp : d'.pits.length = n1 := by rw [hF.lp, hn1]
  have hls : d'.stores.length = 2 := hF.ls
  have hsz : szSown d ≤ 1048576 := by rw [szSown, hF.np, hF.ns]; omega
  have hp2 := hF.hp
  have hv0 := hF.v0
  have hv1 := hF.v1
  have HF := Lib.hid hF
  have HN1 := Lib.hid hn1
  have HPIT := Lib.hid hpit
  have HGAIN := Lib.hid hgain
  have HTAKE := Lib.hid htake
  have HSa := Lib.hid Sa
  have HSb := Lib.hid Sb
  have B1_ := Lib.hid h1
  clear hok hF hpit hgain htake Sa Sb h1 HS HB hn1
  go_upto_region 4 with fail
  obtain ⟨w2, hw2⟩ : ∃ X_, X_ = (w1.alloc (.cells #[.int .i64 r.p, .int .i64 r.s, .bool r.st, .bool r.sk, .bool r.re, .bool r.fe, .bool r.ag, .int .i64 r.ca, .int .i64 r.sl] 25)).alloc (.cells #[.slice A1 n1 c1, .slice A2 2 c2, .int .i64 d.last, .int .i64 d.laps] 28) := ⟨_, rfl⟩
  have N2 : Hid (Below w1.heap.size w1 w2) := by unfold Hid; rw [hw2]; (repeat' (first | (with_reducible exact Below.refl _ _) | (with_reducible assumption) | (with_reducible refine Below.alloc ?_ ?_ _) | (with_reducible refine Below.drew ?_) | (with_reducible refine belowDrewN ?_ _) | (with_reducible refine Below.setCell ?_ ?_ _) | (with_reducible refine Below.via (by with_reducible assumption) ?_ ?_) | (with_reducible refine Below.viaD (by with_reducible assumption) ?_ ?_) | (with_reducible exact Below.size (by with_reducible assumption)) | go_size | (with_reducible refine Nat.le_trans ?_ (Below.size (by with_reducible assumption))) | (with_reducible refine Nat.le_trans ?_ (sizeAlloc _ _)) | (with_reducible refine Nat.le_trans ?_ (sizeSet _ _ _)) | (with_reducible refine Nat.le_trans ?_ (sizeDrew _))))
  have X2 : Hid (Blk w2 w1.heap.size 25 #[.int .i64 r.p, .int .i64 r.s, .bool r.st, .bool r.sk, .bool r.re, .bool r.fe, .bool r.ag, .int .i64 r.ca, .int .i64 r.sl]) := by unfold Hid; rw [hw2]; exact (Blk.new _ _ _).later (Below.alloc (Below.refl _ _) (Nat.le_refl _) _)
  have Y2 : Hid (Blk w2 (w1.heap.size + 1) 28 #[.slice A1 n1 c1, .slice A2 2 c2, .int .i64 d.last, .int .i64 d.laps]) := by unfold Hid; rw [hw2]; exact Blk.new' (by simp)
  rw [← hw2]
  clear hw2
  have Sa2 := Lib.hid (HSa.out.later N2.out)
  have Sb2 := Lib.hid (HSb.out.later N2.out)
  have B2_ := Lib.hid (Below.via N2.out B1_.out B1_.out.size)
  clear N2 HSa HSb B1_
  obtain ⟨⟨x0, x1, x2, x3, x4, x5, x6, x7, x8⟩, _, hxl⟩ := blk9 X2.out
  obtain ⟨⟨y0, y1, y2, y3⟩, _, hyl⟩ := blk4 Y2.out
  go_wp2_with fail
  refine (CapturePits_any r A1 A2 n1 c1 2 c2 d p l 0 w2 Sa2.out Sb2.out hc1 hcm hsz HPIT.out).mono ?_
  rintro e w3 ⟨A3, g3, cap3, rfl, hg3, O3, h3⟩
  have L3 := Lib.hid O3.sl
  have X3 := Lib.hid (X2.out.later h3)
  have Y3 := Lib.hid (Y2.out.later h3)
  have Sa3 := Lib.hid (Sa2.out.later h3)
  have Sb3 := Lib.hid (Sb2.out.later h3)
  have B3_ := Lib.hid (Below.via h3 B2_.out B2_.out.size)
  clear O3 h3 X2 Y2 Sa2 Sb2 B2_ x0 x1 x2 x3 x4 x5 x6 x7 x8 y0 y1 y2 y3 hxl hyl
  obtain ⟨Ln, hLn⟩ : ∃ m, l.length = m := ⟨_, rfl⟩
  rw [hLn] at L3
  rw [hLn]
  have HLN := Lib.hid hLn
  have hL16 : Ln ≤ 16 := by have := HF.out.hi.1; have := HF.out.h8; omega
  clear hLn
  obtain ⟨⟨x0, x1, x2, x3, x4, x5, x6, x7, x8⟩, _, hxl⟩ := blk9 X3.out
  obtain ⟨⟨y0, y1, y2, y3⟩, _, hyl⟩ := blk4 Y3.out
  go_wp2_with fail
  refine (CaptureGain_any r A1 A2 n1 c1 2 c2 d p v 0 w3 Sa3.out Sb3.out hc1 hcm hsz HGAIN.out).mono ?_
  rintro e w4 ⟨rfl, h4⟩
  have L4 := Lib.hid (L3.out.later h4)
  have X4 := Lib.hid (X3.out.later h4)
  have Y4 := Lib.hid (Y3.out.later h4)
  have Sa4 := Lib.hid (Sa3.out.later h4)
  have Sb4 := Lib.hid (Sb3.out.later h4)
  have B4_ := Lib.hid (Below.via h4 B3_.out B3_.out.size)
  clear h4 L3 X3 Y3 Sa3 Sb3 B3_ x0 x1 x2 x3 x4 x5 x6 x7 x8 y0 y1 y2 y3 hxl hyl
  obtain ⟨⟨x0, x1, x2, x3, x4, x5, x6, x7, x8⟩, _, hxl⟩ := blk9 X4.out
  obtain ⟨⟨y0, y1, y2, y3⟩, _, hyl⟩ := blk4 Y4.out
  go_wp2_with fail
  refine (TakeCaptures_any r A1 A2 n1 c1 2 c2 d p d' 0 w4 Sa4.out Sb4.out hc1 hcm hsz HTAKE.out).mono ?_
  rintro e w5 ⟨B1, gt1, q1, B2, gt2, q2, rfl, T1, T2, hgt, h5⟩
  rw [hlp] at T1
  rw [hls] at T2
  rw [hlp, hls]
  have Ta5 := Lib.hid T1.sl
  have Tb5 := Lib.hid T2.sl
  have L5 := Lib.hid (L4.out.later h5)
  have X5 := Lib.hid (X4.out.later h5)
  have Y5 := Lib.hid (Y4.out.later h5)
  have Sa5 := Lib.hid (Sa4.out.later h5)
  have Sb5 := Lib.hid (Sb4.out.later h5)
  have B5_ := Lib.hid (Below.via h5 B4_.out B4_.out.size)
  clear T1 T2 hgt h5 L4 X4 Y4 Sa4 Sb4 B4_ x0 x1 x2 x3 x4 x5 x6 x7 x8 y0 y1 y2 y3 hxl hyl hlp hls
  go_upto_region 7 with fail
  obtain ⟨w6, hw6⟩ : ∃ X_, X_ = w5.alloc (.cells #[.slice B1 n1 q1, .slice B2 2 q2, .int .i64 d'.last, .int .i64 d'.laps] 28) := ⟨_, rfl⟩
  have N6 : Hid (Below w5.heap.size w5 w6) := by unfold Hid; rw [hw6]; exact Below.alloc (Below.refl _ _) (Nat.le_refl _) _
  have Z6 : Hid (Blk w6 w5.heap.size 28 #[.slice B1 n1 q1, .slice B2 2 q2, .int .i64 d'.last, .int .i64 d'.laps]) := by unfold Hid; rw [hw6]; exact Blk.new _ _ _
  rw [← hw6]
  clear hw6
  have Ta6 := Lib.hid (Ta5.out.later N6.out)
  have Tb6 := Lib.hid (Tb5.out.later N6.out)
  have L6 := Lib.hid (L5.out.later N6.out)
  have X6 := Lib.hid (X5.out.later N6.out)
  have Y6 := Lib.hid (Y5.out.later N6.out)
  have Sa6 := Lib.hid (Sa5.out.later N6.out)
  have Sb6 := Lib.hid (Sb5.out.later N6.out)
  have B6_ := Lib.hid (Below.via N6.out B5_.out B5_.out.size)
  clear N6 Ta5 Tb5 L5 X5 Y5 Sa5 Sb5 B5_
  obtain ⟨bs, hbs⟩ : ∃ X_, w1.heap.size + 1 = X_ := ⟨_, rfl⟩
  obtain ⟨bt, hbt⟩ : ∃ X_, w5.heap.size = X_ := ⟨_, rfl⟩
  obtain ⟨br, hbr⟩ : ∃ X_, w1.heap.size = X_ := ⟨_, rfl⟩
  rw [hbs] at Y6
  rw [hbt] at Z6
  rw [hbr] at X6
  rw [hbs, hbt]
  try rw [hbr]
  clear hbs hbt hbr
  obtain ⟨sm, hsm⟩ : ∃ s, psum (d.pits ++ d.stores) (n1 + 2) = s := ⟨_, rfl⟩
  have HSM := Lib.hid hsm
  have HSM2 : Hid (psum (d'.pits ++ d'.stores) (n1 + 2) = sm) := by unfold Hid; rw [← hsm, HN1.out]; exact HF.out.sum
  clear hsm
  go_cut [106] (fun s106 wx => s106 = .bool false ∧ Below w6.heap.size w6 wx)
  case first =>
    obtain ⟨b2, o2, rfl, hb2, hcs⟩ := Sb6.out.2 (by omega)
    obtain ⟨b3, o3, rfl, hb3, hct⟩ := Tb6.out.2 (by omega)
    obtain ⟨z0, hz0⟩ : ∃ z, d.stores.getD 0 0 = z := ⟨_, rfl⟩
    obtain ⟨z1, hz1⟩ : ∃ z, d.stores.getD 1 0 = z := ⟨_, rfl⟩
    have hns := HF.out.ns
    have k0 := hcs 0 _ (getD_map_int (by omega))
    have k1 := hcs 1 _ (getD_map_int (by omega))
    have hls := HF.out.ls
    have j0 := hct 0 _ (getD_map_int (by omega))
    have j1 := hct 1 _ (getD_map_int (by omega))
    have hbd0 := okL_bd HF.out.os (show 0 < d.stores.length by omega)
    have hbd1 := okL_bd HF.out.os (show 1 < d.stores.length by omega)
    have hgot := HF.out.got
    have hleft := fun q (hq : q ≠ p) => HF.out.left hq
    rw [hz0] at k0 hbd0
    rw [hz1] at k1 hbd1
    rw [Nat.add_zero] at k0 j0
    have e0 : ((0 : Int) != 0) = false := by decide
    have en : (((n1 : Nat) : Int) != ((n1 : Nat) : Int)) = false := by rw [bne, beq_self_eq_true]; rfl
    have es : (sm != sm) = false := by rw [bne, beq_self_eq_true]; rfl
    have ez0 : (z0 != z0) = false := by rw [bne, beq_self_eq_true]; rfl
    have ez1 : (z1 != z1) = false := by rw [bne, beq_self_eq_true]; rfl
    have ev0 : (z0 + v != z0 + v) = false := by rw [bne, beq_self_eq_true]; rfl
    have ev1 : (z1 + v != z1 + v) = false := by rw [bne, beq_self_eq_true]; rfl
    have hw0 : IntKind.i64.wrap 0 = 0 := by decide
    have hw1 : IntKind.i64.wrap 1 = 1 := by decide
    have hwz0 : IntKind.i64.wrap (z0 + v) = z0 + v := IntWalk.i64_in _ (by omega)
    have hwz1 : IntKind.i64.wrap (z1 + v) = z1 + v := IntWalk.i64_in _ (by omega)
    have HST : Hid ((Blk w6 bs 28 #[.slice A1 n1 c1, .slice (some ⟨b2, o2, none⟩) 2 c2, .int .i64 d.last, .int .i64 d.laps] ∧ Blk w6 bt 28 #[.slice B1 n1 q1, .slice (some ⟨b3, o3, none⟩) 2 q2, .int .i64 d'.last, .int .i64 d'.laps]) ∧ Below w6.heap.size w6 w6) := ⟨⟨Y6.out, Z6.out⟩, Below.refl _ _⟩
    rcases (show p = 0 ∨ p = 1 by omega) with rfl | rfl
    · as_aux_lemma =>
      have hl1 := hleft 1 (by omega)
      rw [hgot, hz0] at j0
      rw [hl1, hz1] at j1
      have K0 := Lib.hid k0
      have K1 := Lib.hid k1
      have J0 := Lib.hid j0
      have J1 := Lib.hid j1
      clear hgot hleft hl1 k0 k1 j0 j1 hcs hct hz0 hz1
      refine wp_region_held_drew (S := (fun W => (Blk W bs 28 #[.slice A1 n1 c1, .slice (some ⟨b2, o2, none⟩) 2 c2, .int .i64 d.last, .int .i64 d.laps] ∧ Blk W bt 28 #[.slice B1 n1 q1, .slice (some ⟨b3, o3, none⟩) 2 q2, .int .i64 d'.last, .int .i64 d'.laps]) ∧ Below w6.heap.size w6 W)) (by kernel_rfl) ?_ (fun hHeld => ?_)
      focus ((try dsimp only); (first | (with_reducible exact b2_keep hHeld hb_) | (exact b2_drew HST.out)))
      refine H_take (i := 0) (v := ?_) rfl (by kernel_rfl) (by kernel_rfl) (by kernel_rfl) (fun _ _ _ h => h) (by rfl) ?_ (by assumption) ?_
      rotate_left
      focus (intro w hSw; obtain ⟨⟨H1, H2⟩, hB⟩ := hSw; obtain ⟨⟨c0_, c1_, c2_, c3_⟩, _, _⟩ := blk4 H1; obtain ⟨⟨d0, d1, d2, d3⟩, _, _⟩ := blk4 H2; have k0 := (hB.cell (p := ⟨b2, o2, none⟩) hb2).trans K0.out; have k1 := (hB.cell (p := ⟨b2, o2 + 1, none⟩) hb2).trans K1.out; have j0 := (hB.cell (p := ⟨b3, o3, none⟩) hb3).trans J0.out; have j1 := (hB.cell (p := ⟨b3, o3 + 1, none⟩) hb3).trans J1.out; go_simp; first | done | with_reducible rfl | (trace_state; fail))
      try simp only [Act.put, List.setIfInBounds_toArray, List.set_cons_zero, List.set_cons_succ]
      refine H_take (i := 1) (v := ?_) rfl (by kernel_rfl) (by kernel_rfl) (by kernel_rfl) (fun _ _ _ h => h) (by rfl) ?_ (by assumption) ?_
      rotate_left
      focus (intro w hSw; obtain ⟨⟨H1, H2⟩, hB⟩ := hSw; obtain ⟨⟨c0_, c1_, c2_, c3_⟩, _, _⟩ := blk4 H1; obtain ⟨⟨d0, d1, d2, d3⟩, _, _⟩ := blk4 H2; have k0 := (hB.cell (p := ⟨b2, o2, none⟩) hb2).trans K0.out; have k1 := (hB.cell (p := ⟨b2, o2 + 1, none⟩) hb2).trans K1.out; have j0 := (hB.cell (p := ⟨b3, o3, none⟩) hb3).trans J0.out; have j1 := (hB.cell (p := ⟨b3, o3 + 1, none⟩) hb3).trans J1.out; go_simp; first | done | with_reducible rfl | (trace_state; fail))
      try simp only [Act.put, List.setIfInBounds_toArray, List.set_cons_zero, List.set_cons_succ]
      refine H_take (i := 2) (v := ?_) rfl (by kernel_rfl) (by kernel_rfl) (by kernel_rfl) (fun _ _ _ h => h) (by rfl) ?_ (by assumption) ?_
      rotate_left
      focus (intro w hSw; obtain ⟨⟨H1, H2⟩, hB⟩ := hSw; obtain ⟨⟨c0_, c1_, c2_, c3_⟩, _, _⟩ := blk4 H1; obtain ⟨⟨d0, d1, d2, d3⟩, _, _⟩ := blk4 H2; have k0 := (hB.cell (p := ⟨b2, o2, none⟩) hb2).trans K0.out; have k1 := (hB.cell (p := ⟨b2, o2 + 1, none⟩) hb2).trans K1.out; have j0 := (hB.cell (p := ⟨b3, o3, none⟩) hb3).trans J0.out; have j1 := (hB.cell (p := ⟨b3, o3 + 1, none⟩) hb3).trans J1.out; go_simp; first | done | with_reducible rfl | (trace_state; fail))
      try simp only [Act.put, List.setIfInBounds_toArray, List.set_cons_zero, List.set_cons_succ]
      refine H_take (i := 3) (v := ?_) rfl (by kernel_rfl) (by kernel_rfl) (by kernel_rfl) (fun _ _ _ h => h) (by rfl) ?_ (by assumption) ?_
      rotate_left
      focus (intro w hSw; obtain ⟨⟨H1, H2⟩, hB⟩ := hSw; obtain ⟨⟨c0_, c1_, c2_, c3_⟩, _, _⟩ := blk4 H1; obtain ⟨⟨d0, d1, d2, d3⟩, _, _⟩ := blk4 H2; have k0 := (hB.cell (p := ⟨b2, o2, none⟩) hb2).trans K0.out; have k1 := (hB.cell (p := ⟨b2, o2 + 1, none⟩) hb2).trans K1.out; have j0 := (hB.cell (p := ⟨b3, o3, none⟩) hb3).trans J0.out; have j1 := (hB.cell (p := ⟨b3, o3 + 1, none⟩) hb3).trans J1.out; go_simp; first | done | with_reducible rfl | (trace_state; fail))
      try simp only [Act.put, List.setIfInBounds_toArray, List.set_cons_zero, List.set_cons_succ]
      refine H_take (i := 4) (v := ?_) rfl (by kernel_rfl) (by kernel_rfl) (by kernel_rfl) (fun _ _ _ h => h) (by rfl) ?_ (by assumption) ?_
      rotate_left
      focus (intro w hSw; obtain ⟨⟨H1, H2⟩, hB⟩ := hSw; obtain ⟨⟨c0_, c1_, c2_, c3_⟩, _, _⟩ := blk4 H1; obtain ⟨⟨d0, d1, d2, d3⟩, _, _⟩ := blk4 H2; have k0 := (hB.cell (p := ⟨b2, o2, none⟩) hb2).trans K0.out; have k1 := (hB.cell (p := ⟨b2, o2 + 1, none⟩) hb2).trans K1.out; have j0 := (hB.cell (p := ⟨b3, o3, none⟩) hb3).trans J0.out; have j1 := (hB.cell (p := ⟨b3, o3 + 1, none⟩) hb3).trans J1.out; go_simp; first | done | with_reducible rfl | (trace_state; fail))
      try simp only [Act.put, List.setIfInBounds_toArray, List.set_cons_zero, List.set_cons_succ]
      refine H_take (i := 5) (v := ?_) rfl (by kernel_rfl) (by kernel_rfl) (by kernel_rfl) (fun _ _ _ h => h) (by rfl) ?_ (by assumption) ?_
      rotate_left
      focus (intro w hSw; obtain ⟨⟨H1, H2⟩, hB⟩ := hSw; obtain ⟨⟨c0_, c1_, c2_, c3_⟩, _, _⟩ := blk4 H1; obtain ⟨⟨d0, d1, d2, d3⟩, _, _⟩ := blk4 H2; have k0 := (hB.cell (p := ⟨b2, o2, none⟩) hb2).trans K0.out; have k1 := (hB.cell (p := ⟨b2, o2 + 1, none⟩) hb2).trans K1.out; have j0 := (hB.cell (p := ⟨b3, o3, none⟩) hb3).trans J0.out; have j1 := (hB.cell (p := ⟨b3, o3 + 1, none⟩) hb3).trans J1.out; go_simp; first | done | with_reducible rfl | (trace_state; fail))
      try simp only [Act.put, List.setIfInBounds_toArray, List.set_cons_zero, List.set_cons_succ]
      refine H_take (i := 6) (v := ?_) rfl (by kernel_rfl) (by kernel_rfl) (by kernel_rfl) (fun _ _ _ h => h) (by rfl) ?_ (by assumption) ?_
      rotate_left
      focus (intro w hSw; obtain ⟨⟨H1, H2⟩, hB⟩ := hSw; obtain ⟨⟨c0_, c1_, c2_, c3_⟩, _, _⟩ := blk4 H1; obtain ⟨⟨d0, d1, d2, d3⟩, _, _⟩ := blk4 H2; have k0 := (hB.cell (p := ⟨b2, o2, none⟩) hb2).trans K0.out; have k1 := (hB.cell (p := ⟨b2, o2 + 1, none⟩) hb2).trans K1.out; have j0 := (hB.cell (p := ⟨b3, o3, none⟩) hb3).trans J0.out; have j1 := (hB.cell (p := ⟨b3, o3 + 1, none⟩) hb3).trans J1.out; go_simp; first | done | with_reducible rfl | (trace_state; fail))
      try simp only [Act.put, List.setIfInBounds_toArray, List.set_cons_zero, List.set_cons_succ]
      refine H_take (i := 7) (v := ?_) rfl (by kernel_rfl) (by kernel_rfl) (by kernel_rfl) (fun _ _ _ h => h) (by rfl) ?_ (by assumption) ?_
      rotate_left
      focus (intro w hSw; obtain ⟨⟨H1, H2⟩, hB⟩ := hSw; obtain ⟨⟨c0_, c1_, c2_, c3_⟩, _, _⟩ := blk4 H1; obtain ⟨⟨d0, d1, d2, d3⟩, _, _⟩ := blk4 H2; have k0 := (hB.cell (p := ⟨b2, o2, none⟩) hb2).trans K0.out; have k1 := (hB.cell (p := ⟨b2, o2 + 1, none⟩) hb2).trans K1.out; have j0 := (hB.cell (p := ⟨b3, o3, none⟩) hb3).trans J0.out; have j1 := (hB.cell (p := ⟨b3, o3 + 1, none⟩) hb3).trans J1.out; go_simp; first | done | with_reducible rfl | (trace_state; fail))
      try simp only [Act.put, List.setIfInBounds_toArray, List.set_cons_zero, List.set_cons_succ]
      refine H_take (i := 8) (v := ?_) rfl (by kernel_rfl) (by kernel_rfl) (by kernel_rfl) (fun _ _ _ h => h) (by rfl) ?_ (by assumption) ?_
      rotate_left
      focus (intro w hSw; obtain ⟨⟨H1, H2⟩, hB⟩ := hSw; obtain ⟨⟨c0_, c1_, c2_, c3_⟩, _, _⟩ := blk4 H1; obtain ⟨⟨d0, d1, d2, d3⟩, _, _⟩ := blk4 H2; have k0 := (hB.cell (p := ⟨b2, o2, none⟩) hb2).trans K0.out; have k1 := (hB.cell (p := ⟨b2, o2 + 1, none⟩) hb2).trans K1.out; have j0 := (hB.cell (p := ⟨b3, o3, none⟩) hb3).trans J0.out; have j1 := (hB.cell (p := ⟨b3, o3 + 1, none⟩) hb3).trans J1.out; go_simp; first | done | with_reducible rfl | (trace_state; fail))
      try simp only [Act.put, List.setIfInBounds_toArray, List.set_cons_zero, List.set_cons_succ]
      refine H_take (i := 9) (v := ?_) rfl (by kernel_rfl) (by kernel_rfl) (by kernel_rfl) (fun _ _ _ h => h) (by rfl) ?_ (by assumption) ?_
      rotate_left
      focus (intro w hSw; obtain ⟨⟨H1, H2⟩, hB⟩ := hSw; obtain ⟨⟨c0_, c1_, c2_, c3_⟩, _, _⟩ := blk4 H1; obtain ⟨⟨d0, d1, d2, d3⟩, _, _⟩ := blk4 H2; have k0 := (hB.cell (p := ⟨b2, o2, none⟩) hb2).trans K0.out; have k1 := (hB.cell (p := ⟨b2, o2 + 1, none⟩) hb2).trans K1.out; have j0 := (hB.cell (p := ⟨b3, o3, none⟩) hb3).trans J0.out; have j1 := (hB.cell (p := ⟨b3, o3 + 1, none⟩) hb3).trans J1.out; go_simp; first | done | with_reducible rfl | (trace_state; fail))
      try simp only [Act.put, List.setIfInBounds_toArray, List.set_cons_zero, List.set_cons_succ]
      refine H_take (i := 10) (v := ?_) rfl (by kernel_rfl) (by kernel_rfl) (by kernel_rfl) (fun _ _ _ h => h) (by rfl) ?_ (by assumption) ?_
      rotate_left
      focus (intro w hSw; obtain ⟨⟨H1, H2⟩, hB⟩ := hSw; obtain ⟨⟨c0_, c1_, c2_, c3_⟩, _, _⟩ := blk4 H1; obtain ⟨⟨d0, d1, d2, d3⟩, _, _⟩ := blk4 H2; have k0 := (hB.cell (p := ⟨b2, o2, none⟩) hb2).trans K0.out; have k1 := (hB.cell (p := ⟨b2, o2 + 1, none⟩) hb2).trans K1.out; have j0 := (hB.cell (p := ⟨b3, o3, none⟩) hb3).trans J0.out; have j1 := (hB.cell (p := ⟨b3, o3 + 1, none⟩) hb3).trans J1.out; go_simp; first | done | with_reducible rfl | (trace_state; fail))
      try simp only [Act.put, List.setIfInBounds_toArray, List.set_cons_zero, List.set_cons_succ]
      refine H_take (i := 11) (v := ?_) rfl (by kernel_rfl) (by kernel_rfl) (by kernel_rfl) (fun _ _ _ h => h) (by rfl) ?_ (by assumption) ?_
      rotate_left
      focus (intro w hSw; obtain ⟨⟨H1, H2⟩, hB⟩ := hSw; obtain ⟨⟨c0_, c1_, c2_, c3_⟩, _, _⟩ := blk4 H1; obtain ⟨⟨d0, d1, d2, d3⟩, _, _⟩ := blk4 H2; have k0 := (hB.cell (p := ⟨b2, o2, none⟩) hb2).trans K0.out; have k1 := (hB.cell (p := ⟨b2, o2 + 1, none⟩) hb2).trans K1.out; have j0 := (hB.cell (p := ⟨b3, o3, none⟩) hb3).trans J0.out; have j1 := (hB.cell (p := ⟨b3, o3 + 1, none⟩) hb3).trans J1.out; go_simp; first | done | with_reducible rfl | (trace_state; fail))
      try simp only [Act.put, List.setIfInBounds_toArray, List.set_cons_zero, List.set_cons_succ]
      refine H_take (i := 12) (v := ?_) rfl (by kernel_rfl) (by kernel_rfl) (by kernel_rfl) (fun _ _ _ h => h) (by rfl) ?_ (by assumption) ?_
      rotate_left
      focus (intro w hSw; obtain ⟨⟨H1, H2⟩, hB⟩ := hSw; obtain ⟨⟨c0_, c1_, c2_, c3_⟩, _, _⟩ := blk4 H1; obtain ⟨⟨d0, d1, d2, d3⟩, _, _⟩ := blk4 H2; have k0 := (hB.cell (p := ⟨b2, o2, none⟩) hb2).trans K0.out; have k1 := (hB.cell (p := ⟨b2, o2 + 1, none⟩) hb2).trans K1.out; have j0 := (hB.cell (p := ⟨b3, o3, none⟩) hb3).trans J0.out; have j1 := (hB.cell (p := ⟨b3, o3 + 1, none⟩) hb3).trans J1.out; go_simp; first | done | with_reducible rfl | (trace_state; fail))
      try simp only [Act.put, List.setIfInBounds_toArray, List.set_cons_zero, List.set_cons_succ]
      refine H_take (i := 13) (v := ?_) rfl (by kernel_rfl) (by kernel_rfl) (by kernel_rfl) (fun _ _ _ h => h) (by rfl) ?_ (by assumption) ?_
      rotate_left
      focus (intro w hSw; obtain ⟨⟨H1, H2⟩, hB⟩ := hSw; obtain ⟨⟨c0_, c1_, c2_, c3_⟩, _, _⟩ := blk4 H1; obtain ⟨⟨d0, d1, d2, d3⟩, _, _⟩ := blk4 H2; have k0 := (hB.cell (p := ⟨b2, o2, none⟩) hb2).trans K0.out; have k1 := (hB.cell (p := ⟨b2, o2 + 1, none⟩) hb2).trans K1.out; have j0 := (hB.cell (p := ⟨b3, o3, none⟩) hb3).trans J0.out; have j1 := (hB.cell (p := ⟨b3, o3 + 1, none⟩) hb3).trans J1.out; go_simp; first | done | with_reducible rfl | (trace_state; fail))
      try simp only [Act.put, List.setIfInBounds_toArray, List.set_cons_zero, List.set_cons_succ]
      refine H_take (i := 14) (v := ?_) rfl (by kernel_rfl) (by kernel_rfl) (by kernel_rfl) (fun _ _ _ h => h) (by rfl) ?_ (by assumption) ?_
      rotate_left
      focus (intro w hSw; obtain ⟨⟨H1, H2⟩, hB⟩ := hSw; obtain ⟨⟨c0_, c1_, c2_, c3_⟩, _, _⟩ := blk4 H1; obtain ⟨⟨d0, d1, d2, d3⟩, _, _⟩ := blk4 H2; have k0 := (hB.cell (p := ⟨b2, o2, none⟩) hb2).trans K0.out; have k1 := (hB.cell (p := ⟨b2, o2 + 1, none⟩) hb2).trans K1.out; have j0 := (hB.cell (p := ⟨b3, o3, none⟩) hb3).trans J0.out; have j1 := (hB.cell (p := ⟨b3, o3 + 1, none⟩) hb3).trans J1.out; go_simp; first | done | with_reducible rfl | (trace_state; fail))
      try simp only [Act.put, List.setIfInBounds_toArray, List.set_cons_zero, List.set_cons_succ]
      refine H_take (i := 15) (v := ?_) rfl (by kernel_rfl) (by kernel_rfl) (by kernel_rfl) (fun _ _ _ h => h) (by rfl) ?_ (by assumption) ?_
      rotate_left
      focus (intro w hSw; obtain ⟨⟨H1, H2⟩, hB⟩ := hSw; obtain ⟨⟨c0_, c1_, c2_, c3_⟩, _, _⟩ := blk4 H1; obtain ⟨⟨d0, d1, d2, d3⟩, _, _⟩ := blk4 H2; have k0 := (hB.cell (p := ⟨b2, o2, none⟩) hb2).trans K0.out; have k1 := (hB.cell (p := ⟨b2, o2 + 1, none⟩) hb2).trans K1.out; have j0 := (hB.cell (p := ⟨b3, o3, none⟩) hb3).trans J0.out; have j1 := (hB.cell (p := ⟨b3, o3 + 1, none⟩) hb3).trans J1.out; go_simp; first | done | with_reducible rfl | (trace_state; fail))
      try simp only [Act.put, List.setIfInBounds_toArray, List.set_cons_zero, List.set_cons_succ]
      refine H_take (i := 16) (v := ?_) rfl (by kernel_rfl) (by kernel_rfl) (by kernel_rfl) (fun _ _ _ h => h) (by rfl) ?_ (by assumption) ?_
      rotate_left
      focus (intro w hSw; obtain ⟨⟨H1, H2⟩, hB⟩ := hSw; obtain ⟨⟨c0_, c1_, c2_, c3_⟩, _, _⟩ := blk4 H1; obtain ⟨⟨d0, d1, d2, d3⟩, _, _⟩ := blk4 H2; have k0 := (hB.cell (p := ⟨b2, o2, none⟩) hb2).trans K0.out; have k1 := (hB.cell (p := ⟨b2, o2 + 1, none⟩) hb2).trans K1.out; have j0 := (hB.cell (p := ⟨b3, o3, none⟩) hb3).trans J0.out; have j1 := (hB.cell (p := ⟨b3, o3 + 1, none⟩) hb3).trans J1.out; go_simp; first | done | with_reducible rfl | (trace_state; fail))
      try simp only [Act.put, List.setIfInBounds_toArray, List.set_cons_zero, List.set_cons_succ]
      refine H_take (i := 17) (v := ?_) rfl (by kernel_rfl) (by kernel_rfl) (by kernel_rfl) (fun _ _ _ h => h) (by rfl) ?_ (by assumption) ?_
      rotate_left
      focus (intro w hSw; obtain ⟨⟨H1, H2⟩, hB⟩ := hSw; obtain ⟨⟨c0_, c1_, c2_, c3_⟩, _, _⟩ := blk4 H1; obtain ⟨⟨d0, d1, d2, d3⟩, _, _⟩ := blk4 H2; have k0 := (hB.cell (p := ⟨b2, o2, none⟩) hb2).trans K0.out; have k1 := (hB.cell (p := ⟨b2, o2 + 1, none⟩) hb2).trans K1.out; have j0 := (hB.cell (p := ⟨b3, o3, none⟩) hb3).trans J0.out; have j1 := (hB.cell (p := ⟨b3, o3 + 1, none⟩) hb3).trans J1.out; go_simp; first | done | with_reducible rfl | (trace_state; fail))
      try simp only [Act.put, List.setIfInBounds_toArray, List.set_cons_zero, List.set_cons_succ]
      refine H_take (i := 18) (v := ?_) rfl (by kernel_rfl) (by kernel_rfl) (by kernel_rfl) (fun _ _ _ h => h) (by rfl) ?_ (by assumption) ?_
      rotate_left
      focus (intro w hSw; obtain ⟨⟨H1, H2⟩, hB⟩ := hSw; obtain ⟨⟨c0_, c1_, c2_, c3_⟩, _, _⟩ := blk4 H1; obtain ⟨⟨d0, d1, d2, d3⟩, _, _⟩ := blk4 H2; have k0 := (hB.cell (p := ⟨b2, o2, none⟩) hb2).trans K0.out; have k1 := (hB.cell (p := ⟨b2, o2 + 1, none⟩) hb2).trans K1.out; have j0 := (hB.cell (p := ⟨b3, o3, none⟩) hb3).trans J0.out; have j1 := (hB.cell (p := ⟨b3, o3 + 1, none⟩) hb3).trans J1.out; go_simp; first | done | with_reducible rfl | (trace_state; fail))
      try simp only [Act.put, List.setIfInBounds_toArray, List.set_cons_zero, List.set_cons_succ]
      refine H_take (i := 19) (v := ?_) rfl (by kernel_rfl) (by kernel_rfl) (by kernel_rfl) (fun _ _ _ h => h) (by rfl) ?_ (by assumption) ?_
      rotate_left
      focus (intro w hSw; obtain ⟨⟨H1, H2⟩, hB⟩ := hSw; obtain ⟨⟨c0_, c1_, c2_, c3_⟩, _, _⟩ := blk4 H1; obtain ⟨⟨d0, d1, d2, d3⟩, _, _⟩ := blk4 H2; have k0 := (hB.cell (p := ⟨b2, o2, none⟩) hb2).trans K0.out; have k1 := (hB.cell (p := ⟨b2, o2 + 1, none⟩) hb2).trans K1.out; have j0 := (hB.cell (p := ⟨b3, o3, none⟩) hb3).trans J0.out; have j1 := (hB.cell (p := ⟨b3, o3 + 1, none⟩) hb3).trans J1.out; go_simp; first | done | with_reducible rfl | (trace_state; fail))
      try simp only [Act.put, List.setIfInBounds_toArray, List.set_cons_zero, List.set_cons_succ]
      refine H_take (i := 20) (v := ?_) rfl (by kernel_rfl) (by kernel_rfl) (by kernel_rfl) (fun _ _ _ h => h) (by rfl) ?_ (by assumption) ?_
      rotate_left
      focus (intro w hSw; obtain ⟨⟨H1, H2⟩, hB⟩ := hSw; obtain ⟨⟨c0_, c1_, c2_, c3_⟩, _, _⟩ := blk4 H1; obtain ⟨⟨d0, d1, d2, d3⟩, _, _⟩ := blk4 H2; have k0 := (hB.cell (p := ⟨b2, o2, none⟩) hb2).trans K0.out; have k1 := (hB.cell (p := ⟨b2, o2 + 1, none⟩) hb2).trans K1.out; have j0 := (hB.cell (p := ⟨b3, o3, none⟩) hb3).trans J0.out; have j1 := (hB.cell (p := ⟨b3, o3 + 1, none⟩) hb3).trans J1.out; go_simp; first | done | with_reducible rfl | (trace_state; fail))
      try simp only [Act.put, List.setIfInBounds_toArray, List.set_cons_zero, List.set_cons_succ]
      refine H_take (i := 21) (v := ?_) rfl (by kernel_rfl) (by kernel_rfl) (by kernel_rfl) (fun _ _ _ h => h) (by rfl) ?_ (by assumption) ?_
      rotate_left
      focus (intro w hSw; obtain ⟨⟨H1, H2⟩, hB⟩ := hSw; obtain ⟨⟨c0_, c1_, c2_, c3_⟩, _, _⟩ := blk4 H1; obtain ⟨⟨d0, d1, d2, d3⟩, _, _⟩ := blk4 H2; have k0 := (hB.cell (p := ⟨b2, o2, none⟩) hb2).trans K0.out; have k1 := (hB.cell (p := ⟨b2, o2 + 1, none⟩) hb2).trans K1.out; have j0 := (hB.cell (p := ⟨b3, o3, none⟩) hb3).trans J0.out; have j1 := (hB.cell (p := ⟨b3, o3 + 1, none⟩) hb3).trans J1.out; go_simp; first | done | with_reducible rfl | (trace_state; fail))
      try simp only [Act.put, List.setIfInBounds_toArray, List.set_cons_zero, List.set_cons_succ]
      refine H_take (i := 22) (v := ?_) rfl (by kernel_rfl) (by kernel_rfl) (by kernel_rfl) (fun _ _ _ h => h) (by rfl) ?_ (by assumption) ?_
      rotate_left
      focus (intro w hSw; obtain ⟨⟨H1, H2⟩, hB⟩ := hSw; obtain ⟨⟨c0_, c1_, c2_, c3_⟩, _, _⟩ := blk4 H1; obtain ⟨⟨d0, d1, d2, d3⟩, _, _⟩ := blk4 H2; have k0 := (hB.cell (p := ⟨b2, o2, none⟩) hb2).trans K0.out; have k1 := (hB.cell (p := ⟨b2, o2 + 1, none⟩) hb2).trans K1.out; have j0 := (hB.cell (p := ⟨b3, o3, none⟩) hb3).trans J0.out; have j1 := (hB.cell (p := ⟨b3, o3 + 1, none⟩) hb3).trans J1.out; go_simp; first | done | with_reducible rfl | (trace_state; fail))
      try simp only [Act.put, List.setIfInBounds_toArray, List.set_cons_zero, List.set_cons_succ]
      refine H_take (i := 23) (v := ?_) rfl (by kernel_rfl) (by kernel_rfl) (by kernel_rfl) (fun _ _ _ h => h) (by rfl) ?_ (by assumption) ?_
      rotate_left
      focus (intro w hSw; obtain ⟨⟨H1, H2⟩, hB⟩ := hSw; obtain ⟨⟨c0_, c1_, c2_, c3_⟩, _, _⟩ := blk4 H1; obtain ⟨⟨d0, d1, d2, d3⟩, _, _⟩ := blk4 H2; have k0 := (hB.cell (p := ⟨b2, o2, none⟩) hb2).trans K0.out; have k1 := (hB.cell (p := ⟨b2, o2 + 1, none⟩) hb2).trans K1.out; have j0 := (hB.cell (p := ⟨b3, o3, none⟩) hb3).trans J0.out; have j1 := (hB.cell (p := ⟨b3, o3 + 1, none⟩) hb3).trans J1.out; go_simp; first | done | with_reducible rfl | (trace_state; fail))
      try simp only [Act.put, List.setIfInBounds_toArray, List.set_cons_zero, List.set_cons_succ]
      refine H_take (i := 24) (v := ?_) rfl (by kernel_rfl) (by kernel_rfl) (by kernel_rfl) (fun _ _ _ h => h) (by rfl) ?_ (by assumption) ?_
      rotate_left
      focus (intro w hSw; obtain ⟨⟨H1, H2⟩, hB⟩ := hSw; obtain ⟨⟨c0_, c1_, c2_, c3_⟩, _, _⟩ := blk4 H1; obtain ⟨⟨d0, d1, d2, d3⟩, _, _⟩ := blk4 H2; have k0 := (hB.cell (p := ⟨b2, o2, none⟩) hb2).trans K0.out; have k1 := (hB.cell (p := ⟨b2, o2 + 1, none⟩) hb2).trans K1.out; have j0 := (hB.cell (p := ⟨b3, o3, none⟩) hb3).trans J0.out; have j1 := (hB.cell (p := ⟨b3, o3 + 1, none⟩) hb3).trans J1.out; go_simp; first | done | with_reducible rfl | (trace_state; fail))
      try simp only [Act.put, List.setIfInBounds_toArray, List.set_cons_zero, List.set_cons_succ]
      refine H_take (i := 25) (v := ?_) rfl (by kernel_rfl) (by kernel_rfl) (by kernel_rfl) (fun _ _ _ h => h) (by rfl) ?_ (by assumption) ?_
      rotate_left
      focus (intro w hSw; obtain ⟨⟨H1, H2⟩, hB⟩ := hSw; obtain ⟨⟨c0_, c1_, c2_, c3_⟩, _, _⟩ := blk4 H1; obtain ⟨⟨d0, d1, d2, d3⟩, _, _⟩ := blk4 H2; have k0 := (hB.cell (p := ⟨b2, o2, none⟩) hb2).trans K0.out; have k1 := (hB.cell (p := ⟨b2, o2 + 1, none⟩) hb2).trans K1.out; have j0 := (hB.cell (p := ⟨b3, o3, none⟩) hb3).trans J0.out; have j1 := (hB.cell (p := ⟨b3, o3 + 1, none⟩) hb3).trans J1.out; go_simp; first | done | with_reducible rfl | (trace_state; fail))
      try simp only [Act.put, List.setIfInBounds_toArray, List.set_cons_zero, List.set_cons_succ]
      refine H_take (i := 26) (v := ?_) rfl (by kernel_rfl) (by kernel_rfl) (by kernel_rfl) (fun _ _ _ h => h) (by rfl) ?_ (by assumption) ?_
      rotate_left
      focus (intro w hSw; obtain ⟨⟨H1, H2⟩, hB⟩ := hSw; obtain ⟨⟨c0_, c1_, c2_, c3_⟩, _, _⟩ := blk4 H1; obtain ⟨⟨d0, d1, d2, d3⟩, _, _⟩ := blk4 H2; have k0 := (hB.cell (p := ⟨b2, o2, none⟩) hb2).trans K0.out; have k1 := (hB.cell (p := ⟨b2, o2 + 1, none⟩) hb2).trans K1.out; have j0 := (hB.cell (p := ⟨b3, o3, none⟩) hb3).trans J0.out; have j1 := (hB.cell (p := ⟨b3, o3 + 1, none⟩) hb3).trans J1.out; go_simp; first | done | with_reducible rfl | (trace_state; fail))
      try simp only [Act.put, List.setIfInBounds_toArray, List.set_cons_zero, List.set_cons_succ]
      refine H_take (i := 28) (v := ?_) rfl (by kernel_rfl) (by kernel_rfl) (by kernel_rfl) (fun _ _ _ h => h) (by rfl) ?_ (by assumption) ?_
      rotate_left
      focus (intro w hSw; obtain ⟨⟨H1, H2⟩, hB⟩ := hSw; obtain ⟨⟨c0_, c1_, c2_, c3_⟩, _, _⟩ := blk4 H1; obtain ⟨⟨d0, d1, d2, d3⟩, _, _⟩ := blk4 H2; have k0 := (hB.cell (p := ⟨b2, o2, none⟩) hb2).trans K0.out; have k1 := (hB.cell (p := ⟨b2, o2 + 1, none⟩) hb2).trans K1.out; have j0 := (hB.cell (p := ⟨b3, o3, none⟩) hb3).trans J0.out; have j1 := (hB.cell (p := ⟨b3, o3 + 1, none⟩) hb3).trans J1.out; go_simp; first | done | with_reducible rfl | (trace_state; fail))
      try simp only [Act.put, List.setIfInBounds_toArray, List.set_cons_zero, List.set_cons_succ]
      refine H_call (i := 27) rfl (by kernel_rfl) (fun K hK => ?_)
      go_simp
      (go_at_call 9; (with_reducible refine Calls.mono (SownSeeds_any B1 (some ⟨b3, o3, none⟩) n1 q1 2 q2 d' sm _ (Ta6.out.later hHeld.2) (Tb6.out.later hHeld.2) h16 (by omega) HF.out.bd' HSM2.out) ?_); rintro e v1 ⟨rfl, hb_⟩)
      refine hK.out _ _ ?_ (fun hHeld => ?_)
      focus ((try dsimp only); (first | (with_reducible exact b2_keep hHeld hb_) | (exact b2_drew HST.out)))
      clear hK K
      try simp only [Act.put, List.setIfInBounds_toArray, List.set_cons_zero, List.set_cons_succ]
      refine H_call (i := 29) rfl (by kernel_rfl) (fun K hK => ?_)
      go_simp
      (go_at_call 9; (with_reducible refine Calls.mono (SownSeeds_any A1 (some ⟨b2, o2, none⟩) n1 c1 2 c2 d sm _ (Sa6.out.later hHeld.2) (Sb6.out.later hHeld.2) h16 (by omega) HF.out.bd HSM.out) ?_); rintro e v1 ⟨rfl, hb_⟩)
      refine hK.out _ _ ?_ (fun hHeld => ?_)
      focus ((try dsimp only); (first | (with_reducible exact b2_keep hHeld hb_) | (exact b2_drew HST.out)))
      clear hK K
      try simp only [Act.put, List.setIfInBounds_toArray, List.set_cons_zero, List.set_cons_succ]
      refine H_take (i := 30) (v := ?_) rfl (by kernel_rfl) (by kernel_rfl) (by kernel_rfl) (fun _ _ _ h => h) (by rfl) ?_ (by assumption) ?_
      rotate_left
      focus (intro w hSw; obtain ⟨⟨H1, H2⟩, hB⟩ := hSw; obtain ⟨⟨c0_, c1_, c2_, c3_⟩, _, _⟩ := blk4 H1; obtain ⟨⟨d0, d1, d2, d3⟩, _, _⟩ := blk4 H2; have k0 := (hB.cell (p := ⟨b2, o2, none⟩) hb2).trans K0.out; have k1 := (hB.cell (p := ⟨b2, o2 + 1, none⟩) hb2).trans K1.out; have j0 := (hB.cell (p := ⟨b3, o3, none⟩) hb3).trans J0.out; have j1 := (hB.cell (p := ⟨b3, o3 + 1, none⟩) hb3).trans J1.out; go_simp; first | done | with_reducible rfl | (trace_state; fail))
      try simp only [Act.put, List.setIfInBounds_toArray, List.set_cons_zero, List.set_cons_succ]
      refine H_take (i := 31) (v := ?_) rfl (by kernel_rfl) (by kernel_rfl) (by kernel_rfl) (fun _ _ _ h => h) (by rfl) ?_ (by assumption) ?_
      rotate_left
      focus (intro w hSw; obtain ⟨⟨H1, H2⟩, hB⟩ := hSw; obtain ⟨⟨c0_, c1_, c2_, c3_⟩, _, _⟩ := blk4 H1; obtain ⟨⟨d0, d1, d2, d3⟩, _, _⟩ := blk4 H2; have k0 := (hB.cell (p := ⟨b2, o2, none⟩) hb2).trans K0.out; have k1 := (hB.cell (p := ⟨b2, o2 + 1, none⟩) hb2).trans K1.out; have j0 := (hB.cell (p := ⟨b3, o3, none⟩) hb3).trans J0.out; have j1 := (hB.cell (p := ⟨b3, o3 + 1, none⟩) hb3).trans J1.out; go_simp; first | done | with_reducible rfl | (trace_state; fail))
      try simp only [Act.put, List.setIfInBounds_toArray, List.set_cons_zero, List.set_cons_succ]
      refine H_take (i := 32) (v := ?_) rfl (by kernel_rfl) (by kernel_rfl) (by kernel_rfl) (fun _ _ _ h => h) (by rfl) ?_ (by assumption) ?_
      rotate_left
      focus (intro w hSw; obtain ⟨⟨H1, H2⟩, hB⟩ := hSw; obtain ⟨⟨c0_, c1_, c2_, c3_⟩, _, _⟩ := blk4 H1; obtain ⟨⟨d0, d1, d2, d3⟩, _, _⟩ := blk4 H2; have k0 := (hB.cell (p := ⟨b2, o2, none⟩) hb2).trans K0.out; have k1 := (hB.cell (p := ⟨b2, o2 + 1, none⟩) hb2).trans K1.out; have j0 := (hB.cell (p := ⟨b3, o3, none⟩) hb3).trans J0.out; have j1 := (hB.cell (p := ⟨b3, o3 + 1, none⟩) hb3).trans J1.out; go_simp; first | done | with_reducible rfl | (trace_state; fail))
      try simp only [Act.put, List.setIfInBounds_toArray, List.set_cons_zero, List.set_cons_succ]
      refine H_take (i := 33) (v := ?_) rfl (by kernel_rfl) (by kernel_rfl) (by kernel_rfl) (fun _ _ _ h => h) (by rfl) ?_ (by assumption) ?_
      rotate_left
      focus (intro w hSw; obtain ⟨⟨H1, H2⟩, hB⟩ := hSw; obtain ⟨⟨c0_, c1_, c2_, c3_⟩, _, _⟩ := blk4 H1; obtain ⟨⟨d0, d1, d2, d3⟩, _, _⟩ := blk4 H2; have k0 := (hB.cell (p := ⟨b2, o2, none⟩) hb2).trans K0.out; have k1 := (hB.cell (p := ⟨b2, o2 + 1, none⟩) hb2).trans K1.out; have j0 := (hB.cell (p := ⟨b3, o3, none⟩) hb3).trans J0.out; have j1 := (hB.cell (p := ⟨b3, o3 + 1, none⟩) hb3).trans J1.out; go_simp; first | done | with_reducible rfl | (trace_state; fail))
      try simp only [Act.put, List.setIfInBounds_toArray, List.set_cons_zero, List.set_cons_succ]
      refine H_take (i := 34) (v := ?_) rfl (by kernel_rfl) (by kernel_rfl) (by kernel_rfl) (fun _ _ _ h => h) (by rfl) ?_ (by assumption) ?_
      rotate_left
      focus (intro w hSw; obtain ⟨⟨H1, H2⟩, hB⟩ := hSw; obtain ⟨⟨c0_, c1_, c2_, c3_⟩, _, _⟩ := blk4 H1; obtain ⟨⟨d0, d1, d2, d3⟩, _, _⟩ := blk4 H2; have k0 := (hB.cell (p := ⟨b2, o2, none⟩) hb2).trans K0.out; have k1 := (hB.cell (p := ⟨b2, o2 + 1, none⟩) hb2).trans K1.out; have j0 := (hB.cell (p := ⟨b3, o3, none⟩) hb3).trans J0.out; have j1 := (hB.cell (p := ⟨b3, o3 + 1, none⟩) hb3).trans J1.out; go_simp; first | done | with_reducible rfl | (trace_state; fail))
      try simp only [Act.put, List.setIfInBounds_toArray, List.set_cons_zero, List.set_cons_succ]
      refine H_take (i := 35) (v := ?_) rfl (by kernel_rfl) (by kernel_rfl) (by kernel_rfl) (fun _ _ _ h => h) (by rfl) ?_ (by assumption) ?_
      rotate_left
      focus (intro w hSw; obtain ⟨⟨H1, H2⟩, hB⟩ := hSw; obtain ⟨⟨c0_, c1_, c2_, c3_⟩, _, _⟩ := blk4 H1; obtain ⟨⟨d0, d1, d2, d3⟩, _, _⟩ := blk4 H2; have k0 := (hB.cell (p := ⟨b2, o2, none⟩) hb2).trans K0.out; have k1 := (hB.cell (p := ⟨b2, o2 + 1, none⟩) hb2).trans K1.out; have j0 := (hB.cell (p := ⟨b3, o3, none⟩) hb3).trans J0.out; have j1 := (hB.cell (p := ⟨b3, o3 + 1, none⟩) hb3).trans J1.out; go_simp; first | done | with_reducible rfl | (trace_state; fail))
      try simp only [Act.put, List.setIfInBounds_toArray, List.set_cons_zero, List.set_cons_succ]
      refine H_take (i := 36) (v := ?_) rfl (by kernel_rfl) (by kernel_rfl) (by kernel_rfl) (fun _ _ _ h => h) (by rfl) ?_ (by assumption) ?_
      rotate_left
      focus (intro w hSw; obtain ⟨⟨H1, H2⟩, hB⟩ := hSw; obtain ⟨⟨c0_, c1_, c2_, c3_⟩, _, _⟩ := blk4 H1; obtain ⟨⟨d0, d1, d2, d3⟩, _, _⟩ := blk4 H2; have k0 := (hB.cell (p := ⟨b2, o2, none⟩) hb2).trans K0.out; have k1 := (hB.cell (p := ⟨b2, o2 + 1, none⟩) hb2).trans K1.out; have j0 := (hB.cell (p := ⟨b3, o3, none⟩) hb3).trans J0.out; have j1 := (hB.cell (p := ⟨b3, o3 + 1, none⟩) hb3).trans J1.out; go_simp; first | done | with_reducible rfl | (trace_state; fail))
      try simp only [Act.put, List.setIfInBounds_toArray, List.set_cons_zero, List.set_cons_succ]
      refine H_take (i := 37) (v := ?_) rfl (by kernel_rfl) (by kernel_rfl) (by kernel_rfl) (fun _ _ _ h => h) (by rfl) ?_ (by assumption) ?_
      rotate_left
      focus (intro w hSw; obtain ⟨⟨H1, H2⟩, hB⟩ := hSw; obtain ⟨⟨c0_, c1_, c2_, c3_⟩, _, _⟩ := blk4 H1; obtain ⟨⟨d0, d1, d2, d3⟩, _, _⟩ := blk4 H2; have k0 := (hB.cell (p := ⟨b2, o2, none⟩) hb2).trans K0.out; have k1 := (hB.cell (p := ⟨b2, o2 + 1, none⟩) hb2).trans K1.out; have j0 := (hB.cell (p := ⟨b3, o3, none⟩) hb3).trans J0.out; have j1 := (hB.cell (p := ⟨b3, o3 + 1, none⟩) hb3).trans J1.out; go_simp; first | done | with_reducible rfl | (trace_state; fail))
      try simp only [Act.put, List.setIfInBounds_toArray, List.set_cons_zero, List.set_cons_succ]
      refine H_take (i := 38) (v := ?_) rfl (by kernel_rfl) (by kernel_rfl) (by kernel_rfl) (fun _ _ _ h => h) (by rfl) ?_ (by assumption) ?_
      rotate_left
      focus (intro w hSw; obtain ⟨⟨H1, H2⟩, hB⟩ := hSw; obtain ⟨⟨c0_, c1_, c2_, c3_⟩, _, _⟩ := blk4 H1; obtain ⟨⟨d0, d1, d2, d3⟩, _, _⟩ := blk4 H2; have k0 := (hB.cell (p := ⟨b2, o2, none⟩) hb2).trans K0.out; have k1 := (hB.cell (p := ⟨b2, o2 + 1, none⟩) hb2).trans K1.out; have j0 := (hB.cell (p := ⟨b3, o3, none⟩) hb3).trans J0.out; have j1 := (hB.cell (p := ⟨b3, o3 + 1, none⟩) hb3).trans J1.out; go_simp; first | done | with_reducible rfl | (trace_state; fail))
      try simp only [Act.put, List.setIfInBounds_toArray, List.set_cons_zero, List.set_cons_succ]
      refine H_take (i := 39) (v := ?_) rfl (by kernel_rfl) (by kernel_rfl) (by kernel_rfl) (fun _ _ _ h => h) (by rfl) ?_ (by assumption) ?_
      rotate_left
      focus (intro w hSw; obtain ⟨⟨H1, H2⟩, hB⟩ := hSw; obtain ⟨⟨c0_, c1_, c2_, c3_⟩, _, _⟩ := blk4 H1; obtain ⟨⟨d0, d1, d2, d3⟩, _, _⟩ := blk4 H2; have k0 := (hB.cell (p := ⟨b2, o2, none⟩) hb2).trans K0.out; have k1 := (hB.cell (p := ⟨b2, o2 + 1, none⟩) hb2).trans K1.out; have j0 := (hB.cell (p := ⟨b3, o3, none⟩) hb3).trans J0.out; have j1 := (hB.cell (p := ⟨b3, o3 + 1, none⟩) hb3).trans J1.out; go_simp; first | done | with_reducible rfl | (trace_state; fail))
      try simp only [Act.put, List.setIfInBounds_toArray, List.set_cons_zero, List.set_cons_succ]
      refine H_take (i := 40) (v := ?_) rfl (by kernel_rfl) (by kernel_rfl) (by kernel_rfl) (fun _ _ _ h => h) (by rfl) ?_ (by assumption) ?_
      rotate_left
      focus (intro w hSw; obtain ⟨⟨H1, H2⟩, hB⟩ := hSw; obtain ⟨⟨c0_, c1_, c2_, c3_⟩, _, _⟩ := blk4 H1; obtain ⟨⟨d0, d1, d2, d3⟩, _, _⟩ := blk4 H2; have k0 := (hB.cell (p := ⟨b2, o2, none⟩) hb2).trans K0.out; have k1 := (hB.cell (p := ⟨b2, o2 + 1, none⟩) hb2).trans K1.out; have j0 := (hB.cell (p := ⟨b3, o3, none⟩) hb3).trans J0.out; have j1 := (hB.cell (p := ⟨b3, o3 + 1, none⟩) hb3).trans J1.out; go_simp; first | done | with_reducible rfl | (trace_state; fail))
      try simp only [Act.put, List.setIfInBounds_toArray, List.set_cons_zero, List.set_cons_succ]
      refine H_take (i := 41) (v := ?_) rfl (by kernel_rfl) (by kernel_rfl) (by kernel_rfl) (fun _ _ _ h => h) (by rfl) ?_ (by assumption) ?_
      rotate_left
      focus (intro w hSw; obtain ⟨⟨H1, H2⟩, hB⟩ := hSw; obtain ⟨⟨c0_, c1_, c2_, c3_⟩, _, _⟩ := blk4 H1; obtain ⟨⟨d0, d1, d2, d3⟩, _, _⟩ := blk4 H2; have k0 := (hB.cell (p := ⟨b2, o2, none⟩) hb2).trans K0.out; have k1 := (hB.cell (p := ⟨b2, o2 + 1, none⟩) hb2).trans K1.out; have j0 := (hB.cell (p := ⟨b3, o3, none⟩) hb3).trans J0.out; have j1 := (hB.cell (p := ⟨b3, o3 + 1, none⟩) hb3).trans J1.out; go_simp; first | done | with_reducible rfl | (trace_state; fail))
      try simp only [Act.put, List.setIfInBounds_toArray, List.set_cons_zero, List.set_cons_succ]
      refine H_take (i := 42) (v := ?_) rfl (by kernel_rfl) (by kernel_rfl) (by kernel_rfl) (fun _ _ _ h => h) (by rfl) ?_ (by assumption) ?_
      rotate_left
      focus (intro w hSw; obtain ⟨⟨H1, H2⟩, hB⟩ := hSw; obtain ⟨⟨c0_, c1_, c2_, c3_⟩, _, _⟩ := blk4 H1; obtain ⟨⟨d0, d1, d2, d3⟩, _, _⟩ := blk4 H2; have k0 := (hB.cell (p := ⟨b2, o2, none⟩) hb2).trans K0.out; have k1 := (hB.cell (p := ⟨b2, o2 + 1, none⟩) hb2).trans K1.out; have j0 := (hB.cell (p := ⟨b3, o3, none⟩) hb3).trans J0.out; have j1 := (hB.cell (p := ⟨b3, o3 + 1, none⟩) hb3).trans J1.out; go_simp; first | done | with_reducible rfl | (trace_state; fail))
      try simp only [Act.put, List.setIfInBounds_toArray, List.set_cons_zero, List.set_cons_succ]
      refine H_take (i := 43) (v := ?_) rfl (by kernel_rfl) (by kernel_rfl) (by kernel_rfl) (fun _ _ _ h => h) (by rfl) ?_ (by assumption) ?_
      rotate_left
      focus (intro w hSw; obtain ⟨⟨H1, H2⟩, hB⟩ := hSw; obtain ⟨⟨c0_, c1_, c2_, c3_⟩, _, _⟩ := blk4 H1; obtain ⟨⟨d0, d1, d2, d3⟩, _, _⟩ := blk4 H2; have k0 := (hB.cell (p := ⟨b2, o2, none⟩) hb2).trans K0.out; have k1 := (hB.cell (p := ⟨b2, o2 + 1, none⟩) hb2).trans K1.out; have j0 := (hB.cell (p := ⟨b3, o3, none⟩) hb3).trans J0.out; have j1 := (hB.cell (p := ⟨b3, o3 + 1, none⟩) hb3).trans J1.out; go_simp; first | done | with_reducible rfl | (trace_state; fail))
      try simp only [Act.put, List.setIfInBounds_toArray, List.set_cons_zero, List.set_cons_succ]
      refine H_take (i := 44) (v := ?_) rfl (by kernel_rfl) (by kernel_rfl) (by kernel_rfl) (fun _ _ _ h => h) (by rfl) ?_ (by assumption) ?_
      rotate_left
      focus (intro w hSw; obtain ⟨⟨H1, H2⟩, hB⟩ := hSw; obtain ⟨⟨c0_, c1_, c2_, c3_⟩, _, _⟩ := blk4 H1; obtain ⟨⟨d0, d1, d2, d3⟩, _, _⟩ := blk4 H2; have k0 := (hB.cell (p := ⟨b2, o2, none⟩) hb2).trans K0.out; have k1 := (hB.cell (p := ⟨b2, o2 + 1, none⟩) hb2).trans K1.out; have j0 := (hB.cell (p := ⟨b3, o3, none⟩) hb3).trans J0.out; have j1 := (hB.cell (p := ⟨b3, o3 + 1, none⟩) hb3).trans J1.out; go_simp; first | done | with_reducible rfl | (trace_state; fail))
      try simp only [Act.put, List.setIfInBounds_toArray, List.set_cons_zero, List.set_cons_succ]
      refine H_take (i := 45) (v := ?_) rfl (by kernel_rfl) (by kernel_rfl) (by kernel_rfl) (fun _ _ _ h => h) (by rfl) ?_ (by assumption) ?_
      rotate_left
      focus (intro w hSw; obtain ⟨⟨H1, H2⟩, hB⟩ := hSw; obtain ⟨⟨c0_, c1_, c2_, c3_⟩, _, _⟩ := blk4 H1; obtain ⟨⟨d0, d1, d2, d3⟩, _, _⟩ := blk4 H2; have k0 := (hB.cell (p := ⟨b2, o2, none⟩) hb2).trans K0.out; have k1 := (hB.cell (p := ⟨b2, o2 + 1, none⟩) hb2).trans K1.out; have j0 := (hB.cell (p := ⟨b3, o3, none⟩) hb3).trans J0.out; have j1 := (hB.cell (p := ⟨b3, o3 + 1, none⟩) hb3).trans J1.out; go_simp; first | done | with_reducible rfl | (trace_state; fail))
      try simp only [Act.put, List.setIfInBounds_toArray, List.set_cons_zero, List.set_cons_succ]
      refine H_take (i := 46) (v := ?_) rfl (by kernel_rfl) (by kernel_rfl) (by kernel_rfl) (fun _ _ _ h => h) (by rfl) ?_ (by assumption) ?_
      rotate_left
      focus (intro w hSw; obtain ⟨⟨H1, H2⟩, hB⟩ := hSw; obtain ⟨⟨c0_, c1_, c2_, c3_⟩, _, _⟩ := blk4 H1; obtain ⟨⟨d0, d1, d2, d3⟩, _, _⟩ := blk4 H2; have k0 := (hB.cell (p := ⟨b2, o2, none⟩) hb2).trans K0.out; have k1 := (hB.cell (p := ⟨b2, o2 + 1, none⟩) hb2).trans K1.out; have j0 := (hB.cell (p := ⟨b3, o3, none⟩) hb3).trans J0.out; have j1 := (hB.cell (p := ⟨b3, o3 + 1, none⟩) hb3).trans J1.out; go_simp; first | done | with_reducible rfl | (trace_state; fail))
      try simp only [Act.put, List.setIfInBounds_toArray, List.set_cons_zero, List.set_cons_succ]
      refine H_take (i := 47) (v := ?_) rfl (by kernel_rfl) (by kernel_rfl) (by kernel_rfl) (fun _ _ _ h => h) (by rfl) ?_ (by assumption) ?_
      rotate_left
      focus (intro w hSw; obtain ⟨⟨H1, H2⟩, hB⟩ := hSw; obtain ⟨⟨c0_, c1_, c2_, c3_⟩, _, _⟩ := blk4 H1; obtain ⟨⟨d0, d1, d2, d3⟩, _, _⟩ := blk4 H2; have k0 := (hB.cell (p := ⟨b2, o2, none⟩) hb2).trans K0.out; have k1 := (hB.cell (p := ⟨b2, o2 + 1, none⟩) hb2).trans K1.out; have j0 := (hB.cell (p := ⟨b3, o3, none⟩) hb3).trans J0.out; have j1 := (hB.cell (p := ⟨b3, o3 + 1, none⟩) hb3).trans J1.out; go_simp; first | done | with_reducible rfl | (trace_state; fail))
      try simp only [Act.put, List.setIfInBounds_toArray, List.set_cons_zero, List.set_cons_succ]
      refine H_take (i := 48) (v := ?_) rfl (by kernel_rfl) (by kernel_rfl) (by kernel_rfl) (fun _ _ _ h => h) (by rfl) ?_ (by assumption) ?_
      rotate_left
      focus (intro w hSw; obtain ⟨⟨H1, H2⟩, hB⟩ := hSw; obtain ⟨⟨c0_, c1_, c2_, c3_⟩, _, _⟩ := blk4 H1; obtain ⟨⟨d0, d1, d2, d3⟩, _, _⟩ := blk4 H2; have k0 := (hB.cell (p := ⟨b2, o2, none⟩) hb2).trans K0.out; have k1 := (hB.cell (p := ⟨b2, o2 + 1, none⟩) hb2).trans K1.out; have j0 := (hB.cell (p := ⟨b3, o3, none⟩) hb3).trans J0.out; have j1 := (hB.cell (p := ⟨b3, o3 + 1, none⟩) hb3).trans J1.out; go_simp; first | done | with_reducible rfl | (trace_state; fail))
      try simp only [Act.put, List.setIfInBounds_toArray, List.set_cons_zero, List.set_cons_succ]
      refine H_take (i := 49) (v := ?_) rfl (by kernel_rfl) (by kernel_rfl) (by kernel_rfl) (fun _ _ _ h => h) (by rfl) ?_ (by assumption) ?_
      rotate_left
      focus (intro w hSw; obtain ⟨⟨H1, H2⟩, hB⟩ := hSw; obtain ⟨⟨c0_, c1_, c2_, c3_⟩, _, _⟩ := blk4 H1; obtain ⟨⟨d0, d1, d2, d3⟩, _, _⟩ := blk4 H2; have k0 := (hB.cell (p := ⟨b2, o2, none⟩) hb2).trans K0.out; have k1 := (hB.cell (p := ⟨b2, o2 + 1, none⟩) hb2).trans K1.out; have j0 := (hB.cell (p := ⟨b3, o3, none⟩) hb3).trans J0.out; have j1 := (hB.cell (p := ⟨b3, o3 + 1, none⟩) hb3).trans J1.out; go_simp; first | done | with_reducible rfl | (trace_state; fail))
      try simp only [Act.put, List.setIfInBounds_toArray, List.set_cons_zero, List.set_cons_succ]
      refine H_take (i := 50) (v := ?_) rfl (by kernel_rfl) (by kernel_rfl) (by kernel_rfl) (fun _ _ _ h => h) (by rfl) ?_ (by assumption) ?_
      rotate_left
      focus (intro w hSw; obtain ⟨⟨H1, H2⟩, hB⟩ := hSw; obtain ⟨⟨c0_, c1_, c2_, c3_⟩, _, _⟩ := blk4 H1; obtain ⟨⟨d0, d1, d2, d3⟩, _, _⟩ := blk4 H2; have k0 := (hB.cell (p := ⟨b2, o2, none⟩) hb2).trans K0.out; have k1 := (hB.cell (p := ⟨b2, o2 + 1, none⟩) hb2).trans K1.out; have j0 := (hB.cell (p := ⟨b3, o3, none⟩) hb3).trans J0.out; have j1 := (hB.cell (p := ⟨b3, o3 + 1, none⟩) hb3).trans J1.out; go_simp; first | done | with_reducible rfl | (trace_state; fail))
      try simp only [Act.put, List.setIfInBounds_toArray, List.set_cons_zero, List.set_cons_succ]
      refine H_take (i := 51) (v := ?_) rfl (by kernel_rfl) (by kernel_rfl) (by kernel_rfl) (fun _ _ _ h => h) (by rfl) ?_ (by assumption) ?_
      rotate_left
      focus (intro w hSw; obtain ⟨⟨H1, H2⟩, hB⟩ := hSw; obtain ⟨⟨c0_, c1_, c2_, c3_⟩, _, _⟩ := blk4 H1; obtain ⟨⟨d0, d1, d2, d3⟩, _, _⟩ := blk4 H2; have k0 := (hB.cell (p := ⟨b2, o2, none⟩) hb2).trans K0.out; have k1 := (hB.cell (p := ⟨b2, o2 + 1, none⟩) hb2).trans K1.out; have j0 := (hB.cell (p := ⟨b3, o3, none⟩) hb3).trans J0.out; have j1 := (hB.cell (p := ⟨b3, o3 + 1, none⟩) hb3).trans J1.out; go_simp; first | done | with_reducible rfl | (trace_state; fail))
      try simp only [Act.put, List.setIfInBounds_toArray, List.set_cons_zero, List.set_cons_succ]
      refine H_take (i := 52) (v := ?_) rfl (by kernel_rfl) (by kernel_rfl) (by kernel_rfl) (fun _ _ _ h => h) (by rfl) ?_ (by assumption) ?_
      rotate_left
      focus (intro w hSw; obtain ⟨⟨H1, H2⟩, hB⟩ := hSw; obtain ⟨⟨c0_, c1_, c2_, c3_⟩, _, _⟩ := blk4 H1; obtain ⟨⟨d0, d1, d2, d3⟩, _, _⟩ := blk4 H2; have k0 := (hB.cell (p := ⟨b2, o2, none⟩) hb2).trans K0.out; have k1 := (hB.cell (p := ⟨b2, o2 + 1, none⟩) hb2).trans K1.out; have j0 := (hB.cell (p := ⟨b3, o3, none⟩) hb3).trans J0.out; have j1 := (hB.cell (p := ⟨b3, o3 + 1, none⟩) hb3).trans J1.out; go_simp; first | done | with_reducible rfl | (trace_state; fail))
      try simp only [Act.put, List.setIfInBounds_toArray, List.set_cons_zero, List.set_cons_succ]
      refine H_take (i := 53) (v := ?_) rfl (by kernel_rfl) (by kernel_rfl) (by kernel_rfl) (fun _ _ _ h => h) (by rfl) ?_ (by assumption) ?_
      rotate_left
      focus (intro w hSw; obtain ⟨⟨H1, H2⟩, hB⟩ := hSw; obtain ⟨⟨c0_, c1_, c2_, c3_⟩, _, _⟩ := blk4 H1; obtain ⟨⟨d0, d1, d2, d3⟩, _, _⟩ := blk4 H2; have k0 := (hB.cell (p := ⟨b2, o2, none⟩) hb2).trans K0.out; have k1 := (hB.cell (p := ⟨b2, o2 + 1, none⟩) hb2).trans K1.out; have j0 := (hB.cell (p := ⟨b3, o3, none⟩) hb3).trans J0.out; have j1 := (hB.cell (p := ⟨b3, o3 + 1, none⟩) hb3).trans J1.out; go_simp; first | done | with_reducible rfl | (trace_state; fail))
      try simp only [Act.put, List.setIfInBounds_toArray, List.set_cons_zero, List.set_cons_succ]
      refine H_take (i := 54) (v := ?_) rfl (by kernel_rfl) (by kernel_rfl) (by kernel_rfl) (fun _ _ _ h => h) (by rfl) ?_ (by assumption) ?_
      rotate_left
      focus (intro w hSw; obtain ⟨⟨H1, H2⟩, hB⟩ := hSw; obtain ⟨⟨c0_, c1_, c2_, c3_⟩, _, _⟩ := blk4 H1; obtain ⟨⟨d0, d1, d2, d3⟩, _, _⟩ := blk4 H2; have k0 := (hB.cell (p := ⟨b2, o2, none⟩) hb2).trans K0.out; have k1 := (hB.cell (p := ⟨b2, o2 + 1, none⟩) hb2).trans K1.out; have j0 := (hB.cell (p := ⟨b3, o3, none⟩) hb3).trans J0.out; have j1 := (hB.cell (p := ⟨b3, o3 + 1, none⟩) hb3).trans J1.out; go_simp; first | done | with_reducible rfl | (trace_state; fail))
      try simp only [Act.put, List.setIfInBounds_toArray, List.set_cons_zero, List.set_cons_succ]
      refine H_take (i := 55) (v := ?_) rfl (by kernel_rfl) (by kernel_rfl) (by kernel_rfl) (fun _ _ _ h => h) (by rfl) ?_ (by assumption) ?_
      rotate_left
      focus (intro w hSw; obtain ⟨⟨H1, H2⟩, hB⟩ := hSw; obtain ⟨⟨c0_, c1_, c2_, c3_⟩, _, _⟩ := blk4 H1; obtain ⟨⟨d0, d1, d2, d3⟩, _, _⟩ := blk4 H2; have k0 := (hB.cell (p := ⟨b2, o2, none⟩) hb2).trans K0.out; have k1 := (hB.cell (p := ⟨b2, o2 + 1, none⟩) hb2).trans K1.out; have j0 := (hB.cell (p := ⟨b3, o3, none⟩) hb3).trans J0.out; have j1 := (hB.cell (p := ⟨b3, o3 + 1, none⟩) hb3).trans J1.out; go_simp; first | done | with_reducible rfl | (trace_state; fail))
      try simp only [Act.put, List.setIfInBounds_toArray, List.set_cons_zero, List.set_cons_succ]
      refine H_take (i := 56) (v := ?_) rfl (by kernel_rfl) (by kernel_rfl) (by kernel_rfl) (fun _ _ _ h => h) (by rfl) ?_ (by assumption) ?_
      rotate_left
      focus (intro w hSw; obtain ⟨⟨H1, H2⟩, hB⟩ := hSw; obtain ⟨⟨c0_, c1_, c2_, c3_⟩, _, _⟩ := blk4 H1; obtain ⟨⟨d0, d1, d2, d3⟩, _, _⟩ := blk4 H2; have k0 := (hB.cell (p := ⟨b2, o2, none⟩) hb2).trans K0.out; have k1 := (hB.cell (p := ⟨b2, o2 + 1, none⟩) hb2).trans K1.out; have j0 := (hB.cell (p := ⟨b3, o3, none⟩) hb3).trans J0.out; have j1 := (hB.cell (p := ⟨b3, o3 + 1, none⟩) hb3).trans J1.out; go_simp; first | done | with_reducible rfl | (trace_state; fail))
      try simp only [Act.put, List.setIfInBounds_toArray, List.set_cons_zero, List.set_cons_succ]
      refine H_take (i := 57) (v := ?_) rfl (by kernel_rfl) (by kernel_rfl) (by kernel_rfl) (fun _ _ _ h => h) (by rfl) ?_ (by assumption) ?_
      rotate_left
      focus (intro w hSw; obtain ⟨⟨H1, H2⟩, hB⟩ := hSw; obtain ⟨⟨c0_, c1_, c2_, c3_⟩, _, _⟩ := blk4 H1; obtain ⟨⟨d0, d1, d2, d3⟩, _, _⟩ := blk4 H2; have k0 := (hB.cell (p := ⟨b2, o2, none⟩) hb2).trans K0.out; have k1 := (hB.cell (p := ⟨b2, o2 + 1, none⟩) hb2).trans K1.out; have j0 := (hB.cell (p := ⟨b3, o3, none⟩) hb3).trans J0.out; have j1 := (hB.cell (p := ⟨b3, o3 + 1, none⟩) hb3).trans J1.out; go_simp; first | done | with_reducible rfl | (trace_state; fail))
      try simp only [Act.put, List.setIfInBounds_toArray, List.set_cons_zero, List.set_cons_succ]
      refine H_take (i := 58) (v := ?_) rfl (by kernel_rfl) (by kernel_rfl) (by kernel_rfl) (fun _ _ _ h => h) (by rfl) ?_ (by assumption) ?_
      rotate_left
      focus (intro w hSw; obtain ⟨⟨H1, H2⟩, hB⟩ := hSw; obtain ⟨⟨c0_, c1_, c2_, c3_⟩, _, _⟩ := blk4 H1; obtain ⟨⟨d0, d1, d2, d3⟩, _, _⟩ := blk4 H2; have k0 := (hB.cell (p := ⟨b2, o2, none⟩) hb2).trans K0.out; have k1 := (hB.cell (p := ⟨b2, o2 + 1, none⟩) hb2).trans K1.out; have j0 := (hB.cell (p := ⟨b3, o3, none⟩) hb3).trans J0.out; have j1 := (hB.cell (p := ⟨b3, o3 + 1, none⟩) hb3).trans J1.out; go_simp; first | done | with_reducible rfl | (trace_state; fail))
      try simp only [Act.put, List.setIfInBounds_toArray, List.set_cons_zero, List.set_cons_succ]
      refine H_take (i := 59) (v := ?_) rfl (by kernel_rfl) (by kernel_rfl) (by kernel_rfl) (fun _ _ _ h => h) (by rfl) ?_ (by assumption) ?_
      rotate_left
      focus (intro w hSw; obtain ⟨⟨H1, H2⟩, hB⟩ := hSw; obtain ⟨⟨c0_, c1_, c2_, c3_⟩, _, _⟩ := blk4 H1; obtain ⟨⟨d0, d1, d2, d3⟩, _, _⟩ := blk4 H2; have k0 := (hB.cell (p := ⟨b2, o2, none⟩) hb2).trans K0.out; have k1 := (hB.cell (p := ⟨b2, o2 + 1, none⟩) hb2).trans K1.out; have j0 := (hB.cell (p := ⟨b3, o3, none⟩) hb3).trans J0.out; have j1 := (hB.cell (p := ⟨b3, o3 + 1, none⟩) hb3).trans J1.out; go_simp; first | done | with_reducible rfl | (trace_state; fail))
      try simp only [Act.put, List.setIfInBounds_toArray, List.set_cons_zero, List.set_cons_succ]
      refine H_take (i := 60) (v := ?_) rfl (by kernel_rfl) (by kernel_rfl) (by kernel_rfl) (fun _ _ _ h => h) (by rfl) ?_ (by assumption) ?_
      rotate_left
      focus (intro w hSw; obtain ⟨⟨H1, H2⟩, hB⟩ := hSw; obtain ⟨⟨c0_, c1_, c2_, c3_⟩, _, _⟩ := blk4 H1; obtain ⟨⟨d0, d1, d2, d3⟩, _, _⟩ := blk4 H2; have k0 := (hB.cell (p := ⟨b2, o2, none⟩) hb2).trans K0.out; have k1 := (hB.cell (p := ⟨b2, o2 + 1, none⟩) hb2).trans K1.out; have j0 := (hB.cell (p := ⟨b3, o3, none⟩) hb3).trans J0.out; have j1 := (hB.cell (p := ⟨b3, o3 + 1, none⟩) hb3).trans J1.out; go_simp; first | done | with_reducible rfl | (trace_state; fail))
      try simp only [Act.put, List.setIfInBounds_toArray, List.set_cons_zero, List.set_cons_succ]
      refine H_take (i := 61) (v := ?_) rfl (by kernel_rfl) (by kernel_rfl) (by kernel_rfl) (fun _ _ _ h => h) (by rfl) ?_ (by assumption) ?_
      rotate_left
      focus (intro w hSw; obtain ⟨⟨H1, H2⟩, hB⟩ := hSw; obtain ⟨⟨c0_, c1_, c2_, c3_⟩, _, _⟩ := blk4 H1; obtain ⟨⟨d0, d1, d2, d3⟩, _, _⟩ := blk4 H2; have k0 := (hB.cell (p := ⟨b2, o2, none⟩) hb2).trans K0.out; have k1 := (hB.cell (p := ⟨b2, o2 + 1, none⟩) hb2).trans K1.out; have j0 := (hB.cell (p := ⟨b3, o3, none⟩) hb3).trans J0.out; have j1 := (hB.cell (p := ⟨b3, o3 + 1, none⟩) hb3).trans J1.out; go_simp; first | done | with_reducible rfl | (trace_state; fail))
      try simp only [Act.put, List.setIfInBounds_toArray, List.set_cons_zero, List.set_cons_succ]
      refine wpAnyH_done (by kernel_rfl) ?_ _
      go_wp2_with fail
      go_meet
      exact ⟨rfl, hHeld.2⟩
    · as_aux_lemma =>
      have hl0 := hleft 0 (by omega)
      rw [hgot, hz1] at j1
      rw [hl0, hz0] at j0
      have K0 := Lib.hid k0
      have K1 := Lib.hid k1
      have J0 := Lib.hid j0
      have J1 := Lib.hid j1
      clear hgot hleft hl0 k0 k1 j0 j1 hcs hct hz0 hz1
      refine wp_region_held_drew (S := (fun W => (Blk W bs 28 #[.slice A1 n1 c1, .slice (some ⟨b2, o2, none⟩) 2 c2, .int .i64 d.last, .int .i64 d.laps] ∧ Blk W bt 28 #[.slice B1 n1 q1, .slice (some ⟨b3, o3, none⟩) 2 q2, .int .i64 d'.last, .int .i64 d'.laps]) ∧ Below w6.heap.size w6 W)) (by kernel_rfl) ?_ (fun hHeld => ?_)
      focus ((try dsimp only); (first | (with_reducible exact b2_keep hHeld hb_) | (exact b2_drew HST.out)))
      refine H_take (i := 0) (v := ?_) rfl (by kernel_rfl) (by kernel_rfl) (by kernel_rfl) (fun _ _ _ h => h) (by rfl) ?_ (by assumption) ?_
      rotate_left
      focus (intro w hSw; obtain ⟨⟨H1, H2⟩, hB⟩ := hSw; obtain ⟨⟨c0_, c1_, c2_, c3_⟩, _, _⟩ := blk4 H1; obtain ⟨⟨d0, d1, d2, d3⟩, _, _⟩ := blk4 H2; have k0 := (hB.cell (p := ⟨b2, o2, none⟩) hb2).trans K0.out; have k1 := (hB.cell (p := ⟨b2, o2 + 1, none⟩) hb2).trans K1.out; have j0 := (hB.cell (p := ⟨b3, o3, none⟩) hb3).trans J0.out; have j1 := (hB.cell (p := ⟨b3, o3 + 1, none⟩) hb3).trans J1.out; go_simp; first | done | with_reducible rfl | (trace_state; fail))
      try simp only [Act.put, List.setIfInBounds_toArray, List.set_cons_zero, List.set_cons_succ]
      refine H_take (i := 1) (v := ?_) rfl (by kernel_rfl) (by kernel_rfl) (by kernel_rfl) (fun _ _ _ h => h) (by rfl) ?_ (by assumption) ?_
      rotate_left
      focus (intro w hSw; obtain ⟨⟨H1, H2⟩, hB⟩ := hSw; obtain ⟨⟨c0_, c1_, c2_, c3_⟩, _, _⟩ := blk4 H1; obtain ⟨⟨d0, d1, d2, d3⟩, _, _⟩ := blk4 H2; have k0 := (hB.cell (p := ⟨b2, o2, none⟩) hb2).trans K0.out; have k1 := (hB.cell (p := ⟨b2, o2 + 1, none⟩) hb2).trans K1.out; have j0 := (hB.cell (p := ⟨b3, o3, none⟩) hb3).trans J0.out; have j1 := (hB.cell (p := ⟨b3, o3 + 1, none⟩) hb3).trans J1.out; go_simp; first | done | with_reducible rfl | (trace_state; fail))
      try simp only [Act.put, List.setIfInBounds_toArray, List.set_cons_zero, List.set_cons_succ]
      refine H_take (i := 2) (v := ?_) rfl (by kernel_rfl) (by kernel_rfl) (by kernel_rfl) (fun _ _ _ h => h) (by rfl) ?_ (by assumption) ?_
      rotate_left
      focus (intro w hSw; obtain ⟨⟨H1, H2⟩, hB⟩ := hSw; obtain ⟨⟨c0_, c1_, c2_, c3_⟩, _, _⟩ := blk4 H1; obtain ⟨⟨d0, d1, d2, d3⟩, _, _⟩ := blk4 H2; have k0 := (hB.cell (p := ⟨b2, o2, none⟩) hb2).trans K0.out; have k1 := (hB.cell (p := ⟨b2, o2 + 1, none⟩) hb2).trans K1.out; have j0 := (hB.cell (p := ⟨b3, o3, none⟩) hb3).trans J0.out; have j1 := (hB.cell (p := ⟨b3, o3 + 1, none⟩) hb3).trans J1.out; go_simp; first | done | with_reducible rfl | (trace_state; fail))
      try simp only [Act.put, List.setIfInBounds_toArray, List.set_cons_zero, List.set_cons_succ]
      refine H_take (i := 3) (v := ?_) rfl (by kernel_rfl) (by kernel_rfl) (by kernel_rfl) (fun _ _ _ h => h) (by rfl) ?_ (by assumption) ?_
      rotate_left
      focus (intro w hSw; obtain ⟨⟨H1, H2⟩, hB⟩ := hSw; obtain ⟨⟨c0_, c1_, c2_, c3_⟩, _, _⟩ := blk4 H1; obtain ⟨⟨d0, d1, d2, d3⟩, _, _⟩ := blk4 H2; have k0 := (hB.cell (p := ⟨b2, o2, none⟩) hb2).trans K0.out; have k1 := (hB.cell (p := ⟨b2, o2 + 1, none⟩) hb2).trans K1.out; have j0 := (hB.cell (p := ⟨b3, o3, none⟩) hb3).trans J0.out; have j1 := (hB.cell (p := ⟨b3, o3 + 1, none⟩) hb3).trans J1.out; go_simp; first | done | with_reducible rfl | (trace_state; fail))
      try simp only [Act.put, List.setIfInBounds_toArray, List.set_cons_zero, List.set_cons_succ]
      refine H_take (i := 4) (v := ?_) rfl (by kernel_rfl) (by kernel_rfl) (by kernel_rfl) (fun _ _ _ h => h) (by rfl) ?_ (by assumption) ?_
      rotate_left
      focus (intro w hSw; obtain ⟨⟨H1, H2⟩, hB⟩ := hSw; obtain ⟨⟨c0_, c1_, c2_, c3_⟩, _, _⟩ := blk4 H1; obtain ⟨⟨d0, d1, d2, d3⟩, _, _⟩ := blk4 H2; have k0 := (hB.cell (p := ⟨b2, o2, none⟩) hb2).trans K0.out; have k1 := (hB.cell (p := ⟨b2, o2 + 1, none⟩) hb2).trans K1.out; have j0 := (hB.cell (p := ⟨b3, o3, none⟩) hb3).trans J0.out; have j1 := (hB.cell (p := ⟨b3, o3 + 1, none⟩) hb3).trans J1.out; go_simp; first | done | with_reducible rfl | (trace_state; fail))
      try simp only [Act.put, List.setIfInBounds_toArray, List.set_cons_zero, List.set_cons_succ]
      refine H_take (i := 5) (v := ?_) rfl (by kernel_rfl) (by kernel_rfl) (by kernel_rfl) (fun _ _ _ h => h) (by rfl) ?_ (by assumption) ?_
      rotate_left
      focus (intro w hSw; obtain ⟨⟨H1, H2⟩, hB⟩ := hSw; obtain ⟨⟨c0_, c1_, c2_, c3_⟩, _, _⟩ := blk4 H1; obtain ⟨⟨d0, d1, d2, d3⟩, _, _⟩ := blk4 H2; have k0 := (hB.cell (p := ⟨b2, o2, none⟩) hb2).trans K0.out; have k1 := (hB.cell (p := ⟨b2, o2 + 1, none⟩) hb2).trans K1.out; have j0 := (hB.cell (p := ⟨b3, o3, none⟩) hb3).trans J0.out; have j1 := (hB.cell (p := ⟨b3, o3 + 1, none⟩) hb3).trans J1.out; go_simp; first | done | with_reducible rfl | (trace_state; fail))
      try simp only [Act.put, List.setIfInBounds_toArray, List.set_cons_zero, List.set_cons_succ]
      refine H_take (i := 6) (v := ?_) rfl (by kernel_rfl) (by kernel_rfl) (by kernel_rfl) (fun _ _ _ h => h) (by rfl) ?_ (by assumption) ?_
      rotate_left
      focus (intro w hSw; obtain ⟨⟨H1, H2⟩, hB⟩ := hSw; obtain ⟨⟨c0_, c1_, c2_, c3_⟩, _, _⟩ := blk4 H1; obtain ⟨⟨d0, d1, d2, d3⟩, _, _⟩ := blk4 H2; have k0 := (hB.cell (p := ⟨b2, o2, none⟩) hb2).trans K0.out; have k1 := (hB.cell (p := ⟨b2, o2 + 1, none⟩) hb2).trans K1.out; have j0 := (hB.cell (p := ⟨b3, o3, none⟩) hb3).trans J0.out; have j1 := (hB.cell (p := ⟨b3, o3 + 1, none⟩) hb3).trans J1.out; go_simp; first | done | with_reducible rfl | (trace_state; fail))
      try simp only [Act.put, List.setIfInBounds_toArray, List.set_cons_zero, List.set_cons_succ]
      refine H_take (i := 7) (v := ?_) rfl (by kernel_rfl) (by kernel_rfl) (by kernel_rfl) (fun _ _ _ h => h) (by rfl) ?_ (by assumption) ?_
      rotate_left
      focus (intro w hSw; obtain ⟨⟨H1, H2⟩, hB⟩ := hSw; obtain ⟨⟨c0_, c1_, c2_, c3_⟩, _, _⟩ := blk4 H1; obtain ⟨⟨d0, d1, d2, d3⟩, _, _⟩ := blk4 H2; have k0 := (hB.cell (p := ⟨b2, o2, none⟩) hb2).trans K0.out; have k1 := (hB.cell (p := ⟨b2, o2 + 1, none⟩) hb2).trans K1.out; have j0 := (hB.cell (p := ⟨b3, o3, none⟩) hb3).trans J0.out; have j1 := (hB.cell (p := ⟨b3, o3 + 1, none⟩) hb3).trans J1.out; go_simp; first | done | with_reducible rfl | (trace_state; fail))
      try simp only [Act.put, List.setIfInBounds_toArray, List.set_cons_zero, List.set_cons_succ]
      refine H_take (i := 8) (v := ?_) rfl (by kernel_rfl) (by kernel_rfl) (by kernel_rfl) (fun _ _ _ h => h) (by rfl) ?_ (by assumption) ?_
      rotate_left
      focus (intro w hSw; obtain ⟨⟨H1, H2⟩, hB⟩ := hSw; obtain ⟨⟨c0_, c1_, c2_, c3_⟩, _, _⟩ := blk4 H1; obtain ⟨⟨d0, d1, d2, d3⟩, _, _⟩ := blk4 H2; have k0 := (hB.cell (p := ⟨b2, o2, none⟩) hb2).trans K0.out; have k1 := (hB.cell (p := ⟨b2, o2 + 1, none⟩) hb2).trans K1.out; have j0 := (hB.cell (p := ⟨b3, o3, none⟩) hb3).trans J0.out; have j1 := (hB.cell (p := ⟨b3, o3 + 1, none⟩) hb3).trans J1.out; go_simp; first | done | with_reducible rfl | (trace_state; fail))
      try simp only [Act.put, List.setIfInBounds_toArray, List.set_cons_zero, List.set_cons_succ]
      refine H_take (i := 9) (v := ?_) rfl (by kernel_rfl) (by kernel_rfl) (by kernel_rfl) (fun _ _ _ h => h) (by rfl) ?_ (by assumption) ?_
      rotate_left
      focus (intro w hSw; obtain ⟨⟨H1, H2⟩, hB⟩ := hSw; obtain ⟨⟨c0_, c1_, c2_, c3_⟩, _, _⟩ := blk4 H1; obtain ⟨⟨d0, d1, d2, d3⟩, _, _⟩ := blk4 H2; have k0 := (hB.cell (p := ⟨b2, o2, none⟩) hb2).trans K0.out; have k1 := (hB.cell (p := ⟨b2, o2 + 1, none⟩) hb2).trans K1.out; have j0 := (hB.cell (p := ⟨b3, o3, none⟩) hb3).trans J0.out; have j1 := (hB.cell (p := ⟨b3, o3 + 1, none⟩) hb3).trans J1.out; go_simp; first | done | with_reducible rfl | (trace_state; fail))
      try simp only [Act.put, List.setIfInBounds_toArray, List.set_cons_zero, List.set_cons_succ]
      refine H_take (i := 10) (v := ?_) rfl (by kernel_rfl) (by kernel_rfl) (by kernel_rfl) (fun _ _ _ h => h) (by rfl) ?_ (by assumption) ?_
      rotate_left
      focus (intro w hSw; obtain ⟨⟨H1, H2⟩, hB⟩ := hSw; obtain ⟨⟨c0_, c1_, c2_, c3_⟩, _, _⟩ := blk4 H1; obtain ⟨⟨d0, d1, d2, d3⟩, _, _⟩ := blk4 H2; have k0 := (hB.cell (p := ⟨b2, o2, none⟩) hb2).trans K0.out; have k1 := (hB.cell (p := ⟨b2, o2 + 1, none⟩) hb2).trans K1.out; have j0 := (hB.cell (p := ⟨b3, o3, none⟩) hb3).trans J0.out; have j1 := (hB.cell (p := ⟨b3, o3 + 1, none⟩) hb3).trans J1.out; go_simp; first | done | with_reducible rfl | (trace_state; fail))
      try simp only [Act.put, List.setIfInBounds_toArray, List.set_cons_zero, List.set_cons_succ]
      refine H_take (i := 11) (v := ?_) rfl (by kernel_rfl) (by kernel_rfl) (by kernel_rfl) (fun _ _ _ h => h) (by rfl) ?_ (by assumption) ?_
      rotate_left
      focus (intro w hSw; obtain ⟨⟨H1, H2⟩, hB⟩ := hSw; obtain ⟨⟨c0_, c1_, c2_, c3_⟩, _, _⟩ := blk4 H1; obtain ⟨⟨d0, d1, d2, d3⟩, _, _⟩ := blk4 H2; have k0 := (hB.cell (p := ⟨b2, o2, none⟩) hb2).trans K0.out; have k1 := (hB.cell (p := ⟨b2, o2 + 1, none⟩) hb2).trans K1.out; have j0 := (hB.cell (p := ⟨b3, o3, none⟩) hb3).trans J0.out; have j1 := (hB.cell (p := ⟨b3, o3 + 1, none⟩) hb3).trans J1.out; go_simp; first | done | with_reducible rfl | (trace_state; fail))
      try simp only [Act.put, List.setIfInBounds_toArray, List.set_cons_zero, List.set_cons_succ]
      refine H_take (i := 12) (v := ?_) rfl (by kernel_rfl) (by kernel_rfl) (by kernel_rfl) (fun _ _ _ h => h) (by rfl) ?_ (by assumption) ?_
      rotate_left
      focus (intro w hSw; obtain ⟨⟨H1, H2⟩, hB⟩ := hSw; obtain ⟨⟨c0_, c1_, c2_, c3_⟩, _, _⟩ := blk4 H1; obtain ⟨⟨d0, d1, d2, d3⟩, _, _⟩ := blk4 H2; have k0 := (hB.cell (p := ⟨b2, o2, none⟩) hb2).trans K0.out; have k1 := (hB.cell (p := ⟨b2, o2 + 1, none⟩) hb2).trans K1.out; have j0 := (hB.cell (p := ⟨b3, o3, none⟩) hb3).trans J0.out; have j1 := (hB.cell (p := ⟨b3, o3 + 1, none⟩) hb3).trans J1.out; go_simp; first | done | with_reducible rfl | (trace_state; fail))
      try simp only [Act.put, List.setIfInBounds_toArray, List.set_cons_zero, List.set_cons_succ]
      refine H_take (i := 13) (v := ?_) rfl (by kernel_rfl) (by kernel_rfl) (by kernel_rfl) (fun _ _ _ h => h) (by rfl) ?_ (by assumption) ?_
      rotate_left
      focus (intro w hSw; obtain ⟨⟨H1, H2⟩, hB⟩ := hSw; obtain ⟨⟨c0_, c1_, c2_, c3_⟩, _, _⟩ := blk4 H1; obtain ⟨⟨d0, d1, d2, d3⟩, _, _⟩ := blk4 H2; have k0 := (hB.cell (p := ⟨b2, o2, none⟩) hb2).trans K0.out; have k1 := (hB.cell (p := ⟨b2, o2 + 1, none⟩) hb2).trans K1.out; have j0 := (hB.cell (p := ⟨b3, o3, none⟩) hb3).trans J0.out; have j1 := (hB.cell (p := ⟨b3, o3 + 1, none⟩) hb3).trans J1.out; go_simp; first | done | with_reducible rfl | (trace_state; fail))
      try simp only [Act.put, List.setIfInBounds_toArray, List.set_cons_zero, List.set_cons_succ]
      refine H_take (i := 14) (v := ?_) rfl (by kernel_rfl) (by kernel_rfl) (by kernel_rfl) (fun _ _ _ h => h) (by rfl) ?_ (by assumption) ?_
      rotate_left
      focus (intro w hSw; obtain ⟨⟨H1, H2⟩, hB⟩ := hSw; obtain ⟨⟨c0_, c1_, c2_, c3_⟩, _, _⟩ := blk4 H1; obtain ⟨⟨d0, d1, d2, d3⟩, _, _⟩ := blk4 H2; have k0 := (hB.cell (p := ⟨b2, o2, none⟩) hb2).trans K0.out; have k1 := (hB.cell (p := ⟨b2, o2 + 1, none⟩) hb2).trans K1.out; have j0 := (hB.cell (p := ⟨b3, o3, none⟩) hb3).trans J0.out; have j1 := (hB.cell (p := ⟨b3, o3 + 1, none⟩) hb3).trans J1.out; go_simp; first | done | with_reducible rfl | (trace_state; fail))
      try simp only [Act.put, List.setIfInBounds_toArray, List.set_cons_zero, List.set_cons_succ]
      refine H_take (i := 15) (v := ?_) rfl (by kernel_rfl) (by kernel_rfl) (by kernel_rfl) (fun _ _ _ h => h) (by rfl) ?_ (by assumption) ?_
      rotate_left
      focus (intro w hSw; obtain ⟨⟨H1, H2⟩, hB⟩ := hSw; obtain ⟨⟨c0_, c1_, c2_, c3_⟩, _, _⟩ := blk4 H1; obtain ⟨⟨d0, d1, d2, d3⟩, _, _⟩ := blk4 H2; have k0 := (hB.cell (p := ⟨b2, o2, none⟩) hb2).trans K0.out; have k1 := (hB.cell (p := ⟨b2, o2 + 1, none⟩) hb2).trans K1.out; have j0 := (hB.cell (p := ⟨b3, o3, none⟩) hb3).trans J0.out; have j1 := (hB.cell (p := ⟨b3, o3 + 1, none⟩) hb3).trans J1.out; go_simp; first | done | with_reducible rfl | (trace_state; fail))
      try simp only [Act.put, List.setIfInBounds_toArray, List.set_cons_zero, List.set_cons_succ]
      refine H_take (i := 16) (v := ?_) rfl (by kernel_rfl) (by kernel_rfl) (by kernel_rfl) (fun _ _ _ h => h) (by rfl) ?_ (by assumption) ?_
      rotate_left
      focus (intro w hSw; obtain ⟨⟨H1, H2⟩, hB⟩ := hSw; obtain ⟨⟨c0_, c1_, c2_, c3_⟩, _, _⟩ := blk4 H1; obtain ⟨⟨d0, d1, d2, d3⟩, _, _⟩ := blk4 H2; have k0 := (hB.cell (p := ⟨b2, o2, none⟩) hb2).trans K0.out; have k1 := (hB.cell (p := ⟨b2, o2 + 1, none⟩) hb2).trans K1.out; have j0 := (hB.cell (p := ⟨b3, o3, none⟩) hb3).trans J0.out; have j1 := (hB.cell (p := ⟨b3, o3 + 1, none⟩) hb3).trans J1.out; go_simp; first | done | with_reducible rfl | (trace_state; fail))
      try simp only [Act.put, List.setIfInBounds_toArray, List.set_cons_zero, List.set_cons_succ]
      refine H_take (i := 17) (v := ?_) rfl (by kernel_rfl) (by kernel_rfl) (by kernel_rfl) (fun _ _ _ h => h) (by rfl) ?_ (by assumption) ?_
      rotate_left
      focus (intro w hSw; obtain ⟨⟨H1, H2⟩, hB⟩ := hSw; obtain ⟨⟨c0_, c1_, c2_, c3_⟩, _, _⟩ := blk4 H1; obtain ⟨⟨d0, d1, d2, d3⟩, _, _⟩ := blk4 H2; have k0 := (hB.cell (p := ⟨b2, o2, none⟩) hb2).trans K0.out; have k1 := (hB.cell (p := ⟨b2, o2 + 1, none⟩) hb2).trans K1.out; have j0 := (hB.cell (p := ⟨b3, o3, none⟩) hb3).trans J0.out; have j1 := (hB.cell (p := ⟨b3, o3 + 1, none⟩) hb3).trans J1.out; go_simp; first | done | with_reducible rfl | (trace_state; fail))
      try simp only [Act.put, List.setIfInBounds_toArray, List.set_cons_zero, List.set_cons_succ]
      refine H_take (i := 18) (v := ?_) rfl (by kernel_rfl) (by kernel_rfl) (by kernel_rfl) (fun _ _ _ h => h) (by rfl) ?_ (by assumption) ?_
      rotate_left
      focus (intro w hSw; obtain ⟨⟨H1, H2⟩, hB⟩ := hSw; obtain ⟨⟨c0_, c1_, c2_, c3_⟩, _, _⟩ := blk4 H1; obtain ⟨⟨d0, d1, d2, d3⟩, _, _⟩ := blk4 H2; have k0 := (hB.cell (p := ⟨b2, o2, none⟩) hb2).trans K0.out; have k1 := (hB.cell (p := ⟨b2, o2 + 1, none⟩) hb2).trans K1.out; have j0 := (hB.cell (p := ⟨b3, o3, none⟩) hb3).trans J0.out; have j1 := (hB.cell (p := ⟨b3, o3 + 1, none⟩) hb3).trans J1.out; go_simp; first | done | with_reducible rfl | (trace_state; fail))
      try simp only [Act.put, List.setIfInBounds_toArray, List.set_cons_zero, List.set_cons_succ]
      refine H_take (i := 19) (v := ?_) rfl (by kernel_rfl) (by kernel_rfl) (by kernel_rfl) (fun _ _ _ h => h) (by rfl) ?_ (by assumption) ?_
      rotate_left
      focus (intro w hSw; obtain ⟨⟨H1, H2⟩, hB⟩ := hSw; obtain ⟨⟨c0_, c1_, c2_, c3_⟩, _, _⟩ := blk4 H1; obtain ⟨⟨d0, d1, d2, d3⟩, _, _⟩ := blk4 H2; have k0 := (hB.cell (p := ⟨b2, o2, none⟩) hb2).trans K0.out; have k1 := (hB.cell (p := ⟨b2, o2 + 1, none⟩) hb2).trans K1.out; have j0 := (hB.cell (p := ⟨b3, o3, none⟩) hb3).trans J0.out; have j1 := (hB.cell (p := ⟨b3, o3 + 1, none⟩) hb3).trans J1.out; go_simp; first | done | with_reducible rfl | (trace_state; fail))
      try simp only [Act.put, List.setIfInBounds_toArray, List.set_cons_zero, List.set_cons_succ]
      refine H_take (i := 20) (v := ?_) rfl (by kernel_rfl) (by kernel_rfl) (by kernel_rfl) (fun _ _ _ h => h) (by rfl) ?_ (by assumption) ?_
      rotate_left
      focus (intro w hSw; obtain ⟨⟨H1, H2⟩, hB⟩ := hSw; obtain ⟨⟨c0_, c1_, c2_, c3_⟩, _, _⟩ := blk4 H1; obtain ⟨⟨d0, d1, d2, d3⟩, _, _⟩ := blk4 H2; have k0 := (hB.cell (p := ⟨b2, o2, none⟩) hb2).trans K0.out; have k1 := (hB.cell (p := ⟨b2, o2 + 1, none⟩) hb2).trans K1.out; have j0 := (hB.cell (p := ⟨b3, o3, none⟩) hb3).trans J0.out; have j1 := (hB.cell (p := ⟨b3, o3 + 1, none⟩) hb3).trans J1.out; go_simp; first | done | with_reducible rfl | (trace_state; fail))
      try simp only [Act.put, List.setIfInBounds_toArray, List.set_cons_zero, List.set_cons_succ]
      refine H_take (i := 21) (v := ?_) rfl (by kernel_rfl) (by kernel_rfl) (by kernel_rfl) (fun _ _ _ h => h) (by rfl) ?_ (by assumption) ?_
      rotate_left
      focus (intro w hSw; obtain ⟨⟨H1, H2⟩, hB⟩ := hSw; obtain ⟨⟨c0_, c1_, c2_, c3_⟩, _, _⟩ := blk4 H1; obtain ⟨⟨d0, d1, d2, d3⟩, _, _⟩ := blk4 H2; have k0 := (hB.cell (p := ⟨b2, o2, none⟩) hb2).trans K0.out; have k1 := (hB.cell (p := ⟨b2, o2 + 1, none⟩) hb2).trans K1.out; have j0 := (hB.cell (p := ⟨b3, o3, none⟩) hb3).trans J0.out; have j1 := (hB.cell (p := ⟨b3, o3 + 1, none⟩) hb3).trans J1.out; go_simp; first | done | with_reducible rfl | (trace_state; fail))
      try simp only [Act.put, List.setIfInBounds_toArray, List.set_cons_zero, List.set_cons_succ]
      refine H_take (i := 22) (v := ?_) rfl (by kernel_rfl) (by kernel_rfl) (by kernel_rfl) (fun _ _ _ h => h) (by rfl) ?_ (by assumption) ?_
      rotate_left
      focus (intro w hSw; obtain ⟨⟨H1, H2⟩, hB⟩ := hSw; obtain ⟨⟨c0_, c1_, c2_, c3_⟩, _, _⟩ := blk4 H1; obtain ⟨⟨d0, d1, d2, d3⟩, _, _⟩ := blk4 H2; have k0 := (hB.cell (p := ⟨b2, o2, none⟩) hb2).trans K0.out; have k1 := (hB.cell (p := ⟨b2, o2 + 1, none⟩) hb2).trans K1.out; have j0 := (hB.cell (p := ⟨b3, o3, none⟩) hb3).trans J0.out; have j1 := (hB.cell (p := ⟨b3, o3 + 1, none⟩) hb3).trans J1.out; go_simp; first | done | with_reducible rfl | (trace_state; fail))
      try simp only [Act.put, List.setIfInBounds_toArray, List.set_cons_zero, List.set_cons_succ]
      refine H_take (i := 23) (v := ?_) rfl (by kernel_rfl) (by kernel_rfl) (by kernel_rfl) (fun _ _ _ h => h) (by rfl) ?_ (by assumption) ?_
      rotate_left
      focus (intro w hSw; obtain ⟨⟨H1, H2⟩, hB⟩ := hSw; obtain ⟨⟨c0_, c1_, c2_, c3_⟩, _, _⟩ := blk4 H1; obtain ⟨⟨d0, d1, d2, d3⟩, _, _⟩ := blk4 H2; have k0 := (hB.cell (p := ⟨b2, o2, none⟩) hb2).trans K0.out; have k1 := (hB.cell (p := ⟨b2, o2 + 1, none⟩) hb2).trans K1.out; have j0 := (hB.cell (p := ⟨b3, o3, none⟩) hb3).trans J0.out; have j1 := (hB.cell (p := ⟨b3, o3 + 1, none⟩) hb3).trans J1.out; go_simp; first | done | with_reducible rfl | (trace_state; fail))
      try simp only [Act.put, List.setIfInBounds_toArray, List.set_cons_zero, List.set_cons_succ]
      refine H_take (i := 24) (v := ?_) rfl (by kernel_rfl) (by kernel_rfl) (by kernel_rfl) (fun _ _ _ h => h) (by rfl) ?_ (by assumption) ?_
      rotate_left
      focus (intro w hSw; obtain ⟨⟨H1, H2⟩, hB⟩ := hSw; obtain ⟨⟨c0_, c1_, c2_, c3_⟩, _, _⟩ := blk4 H1; obtain ⟨⟨d0, d1, d2, d3⟩, _, _⟩ := blk4 H2; have k0 := (hB.cell (p := ⟨b2, o2, none⟩) hb2).trans K0.out; have k1 := (hB.cell (p := ⟨b2, o2 + 1, none⟩) hb2).trans K1.out; have j0 := (hB.cell (p := ⟨b3, o3, none⟩) hb3).trans J0.out; have j1 := (hB.cell (p := ⟨b3, o3 + 1, none⟩) hb3).trans J1.out; go_simp; first | done | with_reducible rfl | (trace_state; fail))
      try simp only [Act.put, List.setIfInBounds_toArray, List.set_cons_zero, List.set_cons_succ]
      refine H_take (i := 25) (v := ?_) rfl (by kernel_rfl) (by kernel_rfl) (by kernel_rfl) (fun _ _ _ h => h) (by rfl) ?_ (by assumption) ?_
      rotate_left
      focus (intro w hSw; obtain ⟨⟨H1, H2⟩, hB⟩ := hSw; obtain ⟨⟨c0_, c1_, c2_, c3_⟩, _, _⟩ := blk4 H1; obtain ⟨⟨d0, d1, d2, d3⟩, _, _⟩ := blk4 H2; have k0 := (hB.cell (p := ⟨b2, o2, none⟩) hb2).trans K0.out; have k1 := (hB.cell (p := ⟨b2, o2 + 1, none⟩) hb2).trans K1.out; have j0 := (hB.cell (p := ⟨b3, o3, none⟩) hb3).trans J0.out; have j1 := (hB.cell (p := ⟨b3, o3 + 1, none⟩) hb3).trans J1.out; go_simp; first | done | with_reducible rfl | (trace_state; fail))
      try simp only [Act.put, List.setIfInBounds_toArray, List.set_cons_zero, List.set_cons_succ]
      refine H_take (i := 26) (v := ?_) rfl (by kernel_rfl) (by kernel_rfl) (by kernel_rfl) (fun _ _ _ h => h) (by rfl) ?_ (by assumption) ?_
      rotate_left
      focus (intro w hSw; obtain ⟨⟨H1, H2⟩, hB⟩ := hSw; obtain ⟨⟨c0_, c1_, c2_, c3_⟩, _, _⟩ := blk4 H1; obtain ⟨⟨d0, d1, d2, d3⟩, _, _⟩ := blk4 H2; have k0 := (hB.cell (p := ⟨b2, o2, none⟩) hb2).trans K0.out; have k1 := (hB.cell (p := ⟨b2, o2 + 1, none⟩) hb2).trans K1.out; have j0 := (hB.cell (p := ⟨b3, o3, none⟩) hb3).trans J0.out; have j1 := (hB.cell (p := ⟨b3, o3 + 1, none⟩) hb3).trans J1.out; go_simp; first | done | with_reducible rfl | (trace_state; fail))
      try simp only [Act.put, List.setIfInBounds_toArray, List.set_cons_zero, List.set_cons_succ]
      refine H_take (i := 28) (v := ?_) rfl (by kernel_rfl) (by kernel_rfl) (by kernel_rfl) (fun _ _ _ h => h) (by rfl) ?_ (by assumption) ?_
      rotate_left
      focus (intro w hSw; obtain ⟨⟨H1, H2⟩, hB⟩ := hSw; obtain ⟨⟨c0_, c1_, c2_, c3_⟩, _, _⟩ := blk4 H1; obtain ⟨⟨d0, d1, d2, d3⟩, _, _⟩ := blk4 H2; have k0 := (hB.cell (p := ⟨b2, o2, none⟩) hb2).trans K0.out; have k1 := (hB.cell (p := ⟨b2, o2 + 1, none⟩) hb2).trans K1.out; have j0 := (hB.cell (p := ⟨b3, o3, none⟩) hb3).trans J0.out; have j1 := (hB.cell (p := ⟨b3, o3 + 1, none⟩) hb3).trans J1.out; go_simp; first | done | with_reducible rfl | (trace_state; fail))
      try simp only [Act.put, List.setIfInBounds_toArray, List.set_cons_zero, List.set_cons_succ]
      refine H_call (i := 27) rfl (by kernel_rfl) (fun K hK => ?_)
      go_simp
      (go_at_call 9; (with_reducible refine Calls.mono (SownSeeds_any B1 (some ⟨b3, o3, none⟩) n1 q1 2 q2 d' sm _ (Ta6.out.later hHeld.2) (Tb6.out.later hHeld.2) h16 (by omega) HF.out.bd' HSM2.out) ?_); rintro e v1 ⟨rfl, hb_⟩)
      refine hK.out _ _ ?_ (fun hHeld => ?_)
      focus ((try dsimp only); (first | (with_reducible exact b2_keep hHeld hb_) | (exact b2_drew HST.out)))
      clear hK K
      try simp only [Act.put, List.setIfInBounds_toArray, List.set_cons_zero, List.set_cons_succ]
      refine H_call (i := 29) rfl (by kernel_rfl) (fun K hK => ?_)
      go_simp
      (go_at_call 9; (with_reducible refine Calls.mono (SownSeeds_any A1 (some ⟨b2, o2, none⟩) n1 c1 2 c2 d sm _ (Sa6.out.later hHeld.2) (Sb6.out.later hHeld.2) h16 (by omega) HF.out.bd HSM.out) ?_); rintro e v1 ⟨rfl, hb_⟩)
      refine hK.out _ _ ?_ (fun hHeld => ?_)
      focus ((try dsimp only); (first | (with_reducible exact b2_keep hHeld hb_) | (exact b2_drew HST.out)))
      clear hK K
      try simp only [Act.put, List.setIfInBounds_toArray, List.set_cons_zero, List.set_cons_succ]
      refine H_take (i := 30) (v := ?_) rfl (by kernel_rfl) (by kernel_rfl) (by kernel_rfl) (fun _ _ _ h => h) (by rfl) ?_ (by assumption) ?_
      rotate_left
      focus (intro w hSw; obtain ⟨⟨H1, H2⟩, hB⟩ := hSw; obtain ⟨⟨c0_, c1_, c2_, c3_⟩, _, _⟩ := blk4 H1; obtain ⟨⟨d0, d1, d2, d3⟩, _, _⟩ := blk4 H2; have k0 := (hB.cell (p := ⟨b2, o2, none⟩) hb2).trans K0.out; have k1 := (hB.cell (p := ⟨b2, o2 + 1, none⟩) hb2).trans K1.out; have j0 := (hB.cell (p := ⟨b3, o3, none⟩) hb3).trans J0.out; have j1 := (hB.cell (p := ⟨b3, o3 + 1, none⟩) hb3).trans J1.out; go_simp; first | done | with_reducible rfl | (trace_state; fail))
      try simp only [Act.put, List.setIfInBounds_toArray, List.set_cons_zero, List.set_cons_succ]
      refine H_take (i := 31) (v := ?_) rfl (by kernel_rfl) (by kernel_rfl) (by kernel_rfl) (fun _ _ _ h => h) (by rfl) ?_ (by assumption) ?_
      rotate_left
      focus (intro w hSw; obtain ⟨⟨H1, H2⟩, hB⟩ := hSw; obtain ⟨⟨c0_, c1_, c2_, c3_⟩, _, _⟩ := blk4 H1; obtain ⟨⟨d0, d1, d2, d3⟩, _, _⟩ := blk4 H2; have k0 := (hB.cell (p := ⟨b2, o2, none⟩) hb2).trans K0.out; have k1 := (hB.cell (p := ⟨b2, o2 + 1, none⟩) hb2).trans K1.out; have j0 := (hB.cell (p := ⟨b3, o3, none⟩) hb3).trans J0.out; have j1 := (hB.cell (p := ⟨b3, o3 + 1, none⟩) hb3).trans J1.out; go_simp; first | done | with_reducible rfl | (trace_state; fail))
      try simp only [Act.put, List.setIfInBounds_toArray, List.set_cons_zero, List.set_cons_succ]
      refine H_take (i := 32) (v := ?_) rfl (by kernel_rfl) (by kernel_rfl) (by kernel_rfl) (fun _ _ _ h => h) (by rfl) ?_ (by assumption) ?_
      rotate_left
      focus (intro w hSw; obtain ⟨⟨H1, H2⟩, hB⟩ := hSw; obtain ⟨⟨c0_, c1_, c2_, c3_⟩, _, _⟩ := blk4 H1; obtain ⟨⟨d0, d1, d2, d3⟩, _, _⟩ := blk4 H2; have k0 := (hB.cell (p := ⟨b2, o2, none⟩) hb2).trans K0.out; have k1 := (hB.cell (p := ⟨b2, o2 + 1, none⟩) hb2).trans K1.out; have j0 := (hB.cell (p := ⟨b3, o3, none⟩) hb3).trans J0.out; have j1 := (hB.cell (p := ⟨b3, o3 + 1, none⟩) hb3).trans J1.out; go_simp; first | done | with_reducible rfl | (trace_state; fail))
      try simp only [Act.put, List.setIfInBounds_toArray, List.set_cons_zero, List.set_cons_succ]
      refine H_take (i := 33) (v := ?_) rfl (by kernel_rfl) (by kernel_rfl) (by kernel_rfl) (fun _ _ _ h => h) (by rfl) ?_ (by assumption) ?_
      rotate_left
      focus (intro w hSw; obtain ⟨⟨H1, H2⟩, hB⟩ := hSw; obtain ⟨⟨c0_, c1_, c2_, c3_⟩, _, _⟩ := blk4 H1; obtain ⟨⟨d0, d1, d2, d3⟩, _, _⟩ := blk4 H2; have k0 := (hB.cell (p := ⟨b2, o2, none⟩) hb2).trans K0.out; have k1 := (hB.cell (p := ⟨b2, o2 + 1, none⟩) hb2).trans K1.out; have j0 := (hB.cell (p := ⟨b3, o3, none⟩) hb3).trans J0.out; have j1 := (hB.cell (p := ⟨b3, o3 + 1, none⟩) hb3).trans J1.out; go_simp; first | done | with_reducible rfl | (trace_state; fail))
      try simp only [Act.put, List.setIfInBounds_toArray, List.set_cons_zero, List.set_cons_succ]
      refine H_take (i := 34) (v := ?_) rfl (by kernel_rfl) (by kernel_rfl) (by kernel_rfl) (fun _ _ _ h => h) (by rfl) ?_ (by assumption) ?_
      rotate_left
      focus (intro w hSw; obtain ⟨⟨H1, H2⟩, hB⟩ := hSw; obtain ⟨⟨c0_, c1_, c2_, c3_⟩, _, _⟩ := blk4 H1; obtain ⟨⟨d0, d1, d2, d3⟩, _, _⟩ := blk4 H2; have k0 := (hB.cell (p := ⟨b2, o2, none⟩) hb2).trans K0.out; have k1 := (hB.cell (p := ⟨b2, o2 + 1, none⟩) hb2).trans K1.out; have j0 := (hB.cell (p := ⟨b3, o3, none⟩) hb3).trans J0.out; have j1 := (hB.cell (p := ⟨b3, o3 + 1, none⟩) hb3).trans J1.out; go_simp; first | done | with_reducible rfl | (trace_state; fail))
      try simp only [Act.put, List.setIfInBounds_toArray, List.set_cons_zero, List.set_cons_succ]
      refine H_take (i := 35) (v := ?_) rfl (by kernel_rfl) (by kernel_rfl) (by kernel_rfl) (fun _ _ _ h => h) (by rfl) ?_ (by assumption) ?_
      rotate_left
      focus (intro w hSw; obtain ⟨⟨H1, H2⟩, hB⟩ := hSw; obtain ⟨⟨c0_, c1_, c2_, c3_⟩, _, _⟩ := blk4 H1; obtain ⟨⟨d0, d1, d2, d3⟩, _, _⟩ := blk4 H2; have k0 := (hB.cell (p := ⟨b2, o2, none⟩) hb2).trans K0.out; have k1 := (hB.cell (p := ⟨b2, o2 + 1, none⟩) hb2).trans K1.out; have j0 := (hB.cell (p := ⟨b3, o3, none⟩) hb3).trans J0.out; have j1 := (hB.cell (p := ⟨b3, o3 + 1, none⟩) hb3).trans J1.out; go_simp; first | done | with_reducible rfl | (trace_state; fail))
      try simp only [Act.put, List.setIfInBounds_toArray, List.set_cons_zero, List.set_cons_succ]
      refine H_take (i := 36) (v := ?_) rfl (by kernel_rfl) (by kernel_rfl) (by kernel_rfl) (fun _ _ _ h => h) (by rfl) ?_ (by assumption) ?_
      rotate_left
      focus (intro w hSw; obtain ⟨⟨H1, H2⟩, hB⟩ := hSw; obtain ⟨⟨c0_, c1_, c2_, c3_⟩, _, _⟩ := blk4 H1; obtain ⟨⟨d0, d1, d2, d3⟩, _, _⟩ := blk4 H2; have k0 := (hB.cell (p := ⟨b2, o2, none⟩) hb2).trans K0.out; have k1 := (hB.cell (p := ⟨b2, o2 + 1, none⟩) hb2).trans K1.out; have j0 := (hB.cell (p := ⟨b3, o3, none⟩) hb3).trans J0.out; have j1 := (hB.cell (p := ⟨b3, o3 + 1, none⟩) hb3).trans J1.out; go_simp; first | done | with_reducible rfl | (trace_state; fail))
      try simp only [Act.put, List.setIfInBounds_toArray, List.set_cons_zero, List.set_cons_succ]
      refine H_take (i := 37) (v := ?_) rfl (by kernel_rfl) (by kernel_rfl) (by kernel_rfl) (fun _ _ _ h => h) (by rfl) ?_ (by assumption) ?_
      rotate_left
      focus (intro w hSw; obtain ⟨⟨H1, H2⟩, hB⟩ := hSw; obtain ⟨⟨c0_, c1_, c2_, c3_⟩, _, _⟩ := blk4 H1; obtain ⟨⟨d0, d1, d2, d3⟩, _, _⟩ := blk4 H2; have k0 := (hB.cell (p := ⟨b2, o2, none⟩) hb2).trans K0.out; have k1 := (hB.cell (p := ⟨b2, o2 + 1, none⟩) hb2).trans K1.out; have j0 := (hB.cell (p := ⟨b3, o3, none⟩) hb3).trans J0.out; have j1 := (hB.cell (p := ⟨b3, o3 + 1, none⟩) hb3).trans J1.out; go_simp; first | done | with_reducible rfl | (trace_state; fail))
      try simp only [Act.put, List.setIfInBounds_toArray, List.set_cons_zero, List.set_cons_succ]
      refine H_take (i := 38) (v := ?_) rfl (by kernel_rfl) (by kernel_rfl) (by kernel_rfl) (fun _ _ _ h => h) (by rfl) ?_ (by assumption) ?_
      rotate_left
      focus (intro w hSw; obtain ⟨⟨H1, H2⟩, hB⟩ := hSw; obtain ⟨⟨c0_, c1_, c2_, c3_⟩, _, _⟩ := blk4 H1; obtain ⟨⟨d0, d1, d2, d3⟩, _, _⟩ := blk4 H2; have k0 := (hB.cell (p := ⟨b2, o2, none⟩) hb2).trans K0.out; have k1 := (hB.cell (p := ⟨b2, o2 + 1, none⟩) hb2).trans K1.out; have j0 := (hB.cell (p := ⟨b3, o3, none⟩) hb3).trans J0.out; have j1 := (hB.cell (p := ⟨b3, o3 + 1, none⟩) hb3).trans J1.out; go_simp; first | done | with_reducible rfl | (trace_state; fail))
      try simp only [Act.put, List.setIfInBounds_toArray, List.set_cons_zero, List.set_cons_succ]
      refine H_take (i := 39) (v := ?_) rfl (by kernel_rfl) (by kernel_rfl) (by kernel_rfl) (fun _ _ _ h => h) (by rfl) ?_ (by assumption) ?_
      rotate_left
      focus (intro w hSw; obtain ⟨⟨H1, H2⟩, hB⟩ := hSw; obtain ⟨⟨c0_, c1_, c2_, c3_⟩, _, _⟩ := blk4 H1; obtain ⟨⟨d0, d1, d2, d3⟩, _, _⟩ := blk4 H2; have k0 := (hB.cell (p := ⟨b2, o2, none⟩) hb2).trans K0.out; have k1 := (hB.cell (p := ⟨b2, o2 + 1, none⟩) hb2).trans K1.out; have j0 := (hB.cell (p := ⟨b3, o3, none⟩) hb3).trans J0.out; have j1 := (hB.cell (p := ⟨b3, o3 + 1, none⟩) hb3).trans J1.out; go_simp; first | done | with_reducible rfl | (trace_state; fail))
      try simp only [Act.put, List.setIfInBounds_toArray, List.set_cons_zero, List.set_cons_succ]
      refine H_take (i := 40) (v := ?_) rfl (by kernel_rfl) (by kernel_rfl) (by kernel_rfl) (fun _ _ _ h => h) (by rfl) ?_ (by assumption) ?_
      rotate_left
      focus (intro w hSw; obtain ⟨⟨H1, H2⟩, hB⟩ := hSw; obtain ⟨⟨c0_, c1_, c2_, c3_⟩, _, _⟩ := blk4 H1; obtain ⟨⟨d0, d1, d2, d3⟩, _, _⟩ := blk4 H2; have k0 := (hB.cell (p := ⟨b2, o2, none⟩) hb2).trans K0.out; have k1 := (hB.cell (p := ⟨b2, o2 + 1, none⟩) hb2).trans K1.out; have j0 := (hB.cell (p := ⟨b3, o3, none⟩) hb3).trans J0.out; have j1 := (hB.cell (p := ⟨b3, o3 + 1, none⟩) hb3).trans J1.out; go_simp; first | done | with_reducible rfl | (trace_state; fail))
      try simp only [Act.put, List.setIfInBounds_toArray, List.set_cons_zero, List.set_cons_succ]
      refine H_take (i := 41) (v := ?_) rfl (by kernel_rfl) (by kernel_rfl) (by kernel_rfl) (fun _ _ _ h => h) (by rfl) ?_ (by assumption) ?_
      rotate_left
      focus (intro w hSw; obtain ⟨⟨H1, H2⟩, hB⟩ := hSw; obtain ⟨⟨c0_, c1_, c2_, c3_⟩, _, _⟩ := blk4 H1; obtain ⟨⟨d0, d1, d2, d3⟩, _, _⟩ := blk4 H2; have k0 := (hB.cell (p := ⟨b2, o2, none⟩) hb2).trans K0.out; have k1 := (hB.cell (p := ⟨b2, o2 + 1, none⟩) hb2).trans K1.out; have j0 := (hB.cell (p := ⟨b3, o3, none⟩) hb3).trans J0.out; have j1 := (hB.cell (p := ⟨b3, o3 + 1, none⟩) hb3).trans J1.out; go_simp; first | done | with_reducible rfl | (trace_state; fail))
      try simp only [Act.put, List.setIfInBounds_toArray, List.set_cons_zero, List.set_cons_succ]
      refine H_take (i := 42) (v := ?_) rfl (by kernel_rfl) (by kernel_rfl) (by kernel_rfl) (fun _ _ _ h => h) (by rfl) ?_ (by assumption) ?_
      rotate_left
      focus (intro w hSw; obtain ⟨⟨H1, H2⟩, hB⟩ := hSw; obtain ⟨⟨c0_, c1_, c2_, c3_⟩, _, _⟩ := blk4 H1; obtain ⟨⟨d0, d1, d2, d3⟩, _, _⟩ := blk4 H2; have k0 := (hB.cell (p := ⟨b2, o2, none⟩) hb2).trans K0.out; have k1 := (hB.cell (p := ⟨b2, o2 + 1, none⟩) hb2).trans K1.out; have j0 := (hB.cell (p := ⟨b3, o3, none⟩) hb3).trans J0.out; have j1 := (hB.cell (p := ⟨b3, o3 + 1, none⟩) hb3).trans J1.out; go_simp; first | done | with_reducible rfl | (trace_state; fail))
      try simp only [Act.put, List.setIfInBounds_toArray, List.set_cons_zero, List.set_cons_succ]
      refine H_take (i := 43) (v := ?_) rfl (by kernel_rfl) (by kernel_rfl) (by kernel_rfl) (fun _ _ _ h => h) (by rfl) ?_ (by assumption) ?_
      rotate_left
      focus (intro w hSw; obtain ⟨⟨H1, H2⟩, hB⟩ := hSw; obtain ⟨⟨c0_, c1_, c2_, c3_⟩, _, _⟩ := blk4 H1; obtain ⟨⟨d0, d1, d2, d3⟩, _, _⟩ := blk4 H2; have k0 := (hB.cell (p := ⟨b2, o2, none⟩) hb2).trans K0.out; have k1 := (hB.cell (p := ⟨b2, o2 + 1, none⟩) hb2).trans K1.out; have j0 := (hB.cell (p := ⟨b3, o3, none⟩) hb3).trans J0.out; have j1 := (hB.cell (p := ⟨b3, o3 + 1, none⟩) hb3).trans J1.out; go_simp; first | done | with_reducible rfl | (trace_state; fail))
      try simp only [Act.put, List.setIfInBounds_toArray, List.set_cons_zero, List.set_cons_succ]
      refine H_take (i := 44) (v := ?_) rfl (by kernel_rfl) (by kernel_rfl) (by kernel_rfl) (fun _ _ _ h => h) (by rfl) ?_ (by assumption) ?_
      rotate_left
      focus (intro w hSw; obtain ⟨⟨H1, H2⟩, hB⟩ := hSw; obtain ⟨⟨c0_, c1_, c2_, c3_⟩, _, _⟩ := blk4 H1; obtain ⟨⟨d0, d1, d2, d3⟩, _, _⟩ := blk4 H2; have k0 := (hB.cell (p := ⟨b2, o2, none⟩) hb2).trans K0.out; have k1 := (hB.cell (p := ⟨b2, o2 + 1, none⟩) hb2).trans K1.out; have j0 := (hB.cell (p := ⟨b3, o3, none⟩) hb3).trans J0.out; have j1 := (hB.cell (p := ⟨b3, o3 + 1, none⟩) hb3).trans J1.out; go_simp; first | done | with_reducible rfl | (trace_state; fail))
      try simp only [Act.put, List.setIfInBounds_toArray, List.set_cons_zero, List.set_cons_succ]
      refine H_take (i := 45) (v := ?_) rfl (by kernel_rfl) (by kernel_rfl) (by kernel_rfl) (fun _ _ _ h => h) (by rfl) ?_ (by assumption) ?_
      rotate_left
      focus (intro w hSw; obtain ⟨⟨H1, H2⟩, hB⟩ := hSw; obtain ⟨⟨c0_, c1_, c2_, c3_⟩, _, _⟩ := blk4 H1; obtain ⟨⟨d0, d1, d2, d3⟩, _, _⟩ := blk4 H2; have k0 := (hB.cell (p := ⟨b2, o2, none⟩) hb2).trans K0.out; have k1 := (hB.cell (p := ⟨b2, o2 + 1, none⟩) hb2).trans K1.out; have j0 := (hB.cell (p := ⟨b3, o3, none⟩) hb3).trans J0.out; have j1 := (hB.cell (p := ⟨b3, o3 + 1, none⟩) hb3).trans J1.out; go_simp; first | done | with_reducible rfl | (trace_state; fail))
      try simp only [Act.put, List.setIfInBounds_toArray, List.set_cons_zero, List.set_cons_succ]
      refine H_take (i := 46) (v := ?_) rfl (by kernel_rfl) (by kernel_rfl) (by kernel_rfl) (fun _ _ _ h => h) (by rfl) ?_ (by assumption) ?_
      rotate_left
      focus (intro w hSw; obtain ⟨⟨H1, H2⟩, hB⟩ := hSw; obtain ⟨⟨c0_, c1_, c2_, c3_⟩, _, _⟩ := blk4 H1; obtain ⟨⟨d0, d1, d2, d3⟩, _, _⟩ := blk4 H2; have k0 := (hB.cell (p := ⟨b2, o2, none⟩) hb2).trans K0.out; have k1 := (hB.cell (p := ⟨b2, o2 + 1, none⟩) hb2).trans K1.out; have j0 := (hB.cell (p := ⟨b3, o3, none⟩) hb3).trans J0.out; have j1 := (hB.cell (p := ⟨b3, o3 + 1, none⟩) hb3).trans J1.out; go_simp; first | done | with_reducible rfl | (trace_state; fail))
      try simp only [Act.put, List.setIfInBounds_toArray, List.set_cons_zero, List.set_cons_succ]
      refine H_take (i := 47) (v := ?_) rfl (by kernel_rfl) (by kernel_rfl) (by kernel_rfl) (fun _ _ _ h => h) (by rfl) ?_ (by assumption) ?_
      rotate_left
      focus (intro w hSw; obtain ⟨⟨H1, H2⟩, hB⟩ := hSw; obtain ⟨⟨c0_, c1_, c2_, c3_⟩, _, _⟩ := blk4 H1; obtain ⟨⟨d0, d1, d2, d3⟩, _, _⟩ := blk4 H2; have k0 := (hB.cell (p := ⟨b2, o2, none⟩) hb2).trans K0.out; have k1 := (hB.cell (p := ⟨b2, o2 + 1, none⟩) hb2).trans K1.out; have j0 := (hB.cell (p := ⟨b3, o3, none⟩) hb3).trans J0.out; have j1 := (hB.cell (p := ⟨b3, o3 + 1, none⟩) hb3).trans J1.out; go_simp; first | done | with_reducible rfl | (trace_state; fail))
      try simp only [Act.put, List.setIfInBounds_toArray, List.set_cons_zero, List.set_cons_succ]
      refine H_take (i := 48) (v := ?_) rfl (by kernel_rfl) (by kernel_rfl) (by kernel_rfl) (fun _ _ _ h => h) (by rfl) ?_ (by assumption) ?_
      rotate_left
      focus (intro w hSw; obtain ⟨⟨H1, H2⟩, hB⟩ := hSw; obtain ⟨⟨c0_, c1_, c2_, c3_⟩, _, _⟩ := blk4 H1; obtain ⟨⟨d0, d1, d2, d3⟩, _, _⟩ := blk4 H2; have k0 := (hB.cell (p := ⟨b2, o2, none⟩) hb2).trans K0.out; have k1 := (hB.cell (p := ⟨b2, o2 + 1, none⟩) hb2).trans K1.out; have j0 := (hB.cell (p := ⟨b3, o3, none⟩) hb3).trans J0.out; have j1 := (hB.cell (p := ⟨b3, o3 + 1, none⟩) hb3).trans J1.out; go_simp; first | done | with_reducible rfl | (trace_state; fail))
      try simp only [Act.put, List.setIfInBounds_toArray, List.set_cons_zero, List.set_cons_succ]
      refine H_take (i := 49) (v := ?_) rfl (by kernel_rfl) (by kernel_rfl) (by kernel_rfl) (fun _ _ _ h => h) (by rfl) ?_ (by assumption) ?_
      rotate_left
      focus (intro w hSw; obtain ⟨⟨H1, H2⟩, hB⟩ := hSw; obtain ⟨⟨c0_, c1_, c2_, c3_⟩, _, _⟩ := blk4 H1; obtain ⟨⟨d0, d1, d2, d3⟩, _, _⟩ := blk4 H2; have k0 := (hB.cell (p := ⟨b2, o2, none⟩) hb2).trans K0.out; have k1 := (hB.cell (p := ⟨b2, o2 + 1, none⟩) hb2).trans K1.out; have j0 := (hB.cell (p := ⟨b3, o3, none⟩) hb3).trans J0.out; have j1 := (hB.cell (p := ⟨b3, o3 + 1, none⟩) hb3).trans J1.out; go_simp; first | done | with_reducible rfl | (trace_state; fail))
      try simp only [Act.put, List.setIfInBounds_toArray, List.set_cons_zero, List.set_cons_succ]
      refine H_take (i := 50) (v := ?_) rfl (by kernel_rfl) (by kernel_rfl) (by kernel_rfl) (fun _ _ _ h => h) (by rfl) ?_ (by assumption) ?_
      rotate_left
      focus (intro w hSw; obtain ⟨⟨H1, H2⟩, hB⟩ := hSw; obtain ⟨⟨c0_, c1_, c2_, c3_⟩, _, _⟩ := blk4 H1; obtain ⟨⟨d0, d1, d2, d3⟩, _, _⟩ := blk4 H2; have k0 := (hB.cell (p := ⟨b2, o2, none⟩) hb2).trans K0.out; have k1 := (hB.cell (p := ⟨b2, o2 + 1, none⟩) hb2).trans K1.out; have j0 := (hB.cell (p := ⟨b3, o3, none⟩) hb3).trans J0.out; have j1 := (hB.cell (p := ⟨b3, o3 + 1, none⟩) hb3).trans J1.out; go_simp; first | done | with_reducible rfl | (trace_state; fail))
      try simp only [Act.put, List.setIfInBounds_toArray, List.set_cons_zero, List.set_cons_succ]
      refine H_take (i := 51) (v := ?_) rfl (by kernel_rfl) (by kernel_rfl) (by kernel_rfl) (fun _ _ _ h => h) (by rfl) ?_ (by assumption) ?_
      rotate_left
      focus (intro w hSw; obtain ⟨⟨H1, H2⟩, hB⟩ := hSw; obtain ⟨⟨c0_, c1_, c2_, c3_⟩, _, _⟩ := blk4 H1; obtain ⟨⟨d0, d1, d2, d3⟩, _, _⟩ := blk4 H2; have k0 := (hB.cell (p := ⟨b2, o2, none⟩) hb2).trans K0.out; have k1 := (hB.cell (p := ⟨b2, o2 + 1, none⟩) hb2).trans K1.out; have j0 := (hB.cell (p := ⟨b3, o3, none⟩) hb3).trans J0.out; have j1 := (hB.cell (p := ⟨b3, o3 + 1, none⟩) hb3).trans J1.out; go_simp; first | done | with_reducible rfl | (trace_state; fail))
      try simp only [Act.put, List.setIfInBounds_toArray, List.set_cons_zero, List.set_cons_succ]
      refine H_take (i := 52) (v := ?_) rfl (by kernel_rfl) (by kernel_rfl) (by kernel_rfl) (fun _ _ _ h => h) (by rfl) ?_ (by assumption) ?_
      rotate_left
      focus (intro w hSw; obtain ⟨⟨H1, H2⟩, hB⟩ := hSw; obtain ⟨⟨c0_, c1_, c2_, c3_⟩, _, _⟩ := blk4 H1; obtain ⟨⟨d0, d1, d2, d3⟩, _, _⟩ := blk4 H2; have k0 := (hB.cell (p := ⟨b2, o2, none⟩) hb2).trans K0.out; have k1 := (hB.cell (p := ⟨b2, o2 + 1, none⟩) hb2).trans K1.out; have j0 := (hB.cell (p := ⟨b3, o3, none⟩) hb3).trans J0.out; have j1 := (hB.cell (p := ⟨b3, o3 + 1, none⟩) hb3).trans J1.out; go_simp; first | done | with_reducible rfl | (trace_state; fail))
      try simp only [Act.put, List.setIfInBounds_toArray, List.set_cons_zero, List.set_cons_succ]
      refine H_take (i := 53) (v := ?_) rfl (by kernel_rfl) (by kernel_rfl) (by kernel_rfl) (fun _ _ _ h => h) (by rfl) ?_ (by assumption) ?_
      rotate_left
      focus (intro w hSw; obtain ⟨⟨H1, H2⟩, hB⟩ := hSw; obtain ⟨⟨c0_, c1_, c2_, c3_⟩, _, _⟩ := blk4 H1; obtain ⟨⟨d0, d1, d2, d3⟩, _, _⟩ := blk4 H2; have k0 := (hB.cell (p := ⟨b2, o2, none⟩) hb2).trans K0.out; have k1 := (hB.cell (p := ⟨b2, o2 + 1, none⟩) hb2).trans K1.out; have j0 := (hB.cell (p := ⟨b3, o3, none⟩) hb3).trans J0.out; have j1 := (hB.cell (p := ⟨b3, o3 + 1, none⟩) hb3).trans J1.out; go_simp; first | done | with_reducible rfl | (trace_state; fail))
      try simp only [Act.put, List.setIfInBounds_toArray, List.set_cons_zero, List.set_cons_succ]
      refine H_take (i := 54) (v := ?_) rfl (by kernel_rfl) (by kernel_rfl) (by kernel_rfl) (fun _ _ _ h => h) (by rfl) ?_ (by assumption) ?_
      rotate_left
      focus (intro w hSw; obtain ⟨⟨H1, H2⟩, hB⟩ := hSw; obtain ⟨⟨c0_, c1_, c2_, c3_⟩, _, _⟩ := blk4 H1; obtain ⟨⟨d0, d1, d2, d3⟩, _, _⟩ := blk4 H2; have k0 := (hB.cell (p := ⟨b2, o2, none⟩) hb2).trans K0.out; have k1 := (hB.cell (p := ⟨b2, o2 + 1, none⟩) hb2).trans K1.out; have j0 := (hB.cell (p := ⟨b3, o3, none⟩) hb3).trans J0.out; have j1 := (hB.cell (p := ⟨b3, o3 + 1, none⟩) hb3).trans J1.out; go_simp; first | done | with_reducible rfl | (trace_state; fail))
      try simp only [Act.put, List.setIfInBounds_toArray, List.set_cons_zero, List.set_cons_succ]
      refine H_take (i := 55) (v := ?_) rfl (by kernel_rfl) (by kernel_rfl) (by kernel_rfl) (fun _ _ _ h => h) (by rfl) ?_ (by assumption) ?_
      rotate_left
      focus (intro w hSw; obtain ⟨⟨H1, H2⟩, hB⟩ := hSw; obtain ⟨⟨c0_, c1_, c2_, c3_⟩, _, _⟩ := blk4 H1; obtain ⟨⟨d0, d1, d2, d3⟩, _, _⟩ := blk4 H2; have k0 := (hB.cell (p := ⟨b2, o2, none⟩) hb2).trans K0.out; have k1 := (hB.cell (p := ⟨b2, o2 + 1, none⟩) hb2).trans K1.out; have j0 := (hB.cell (p := ⟨b3, o3, none⟩) hb3).trans J0.out; have j1 := (hB.cell (p := ⟨b3, o3 + 1, none⟩) hb3).trans J1.out; go_simp; first | done | with_reducible rfl | (trace_state; fail))
      try simp only [Act.put, List.setIfInBounds_toArray, List.set_cons_zero, List.set_cons_succ]
      refine H_take (i := 56) (v := ?_) rfl (by kernel_rfl) (by kernel_rfl) (by kernel_rfl) (fun _ _ _ h => h) (by rfl) ?_ (by assumption) ?_
      rotate_left
      focus (intro w hSw; obtain ⟨⟨H1, H2⟩, hB⟩ := hSw; obtain ⟨⟨c0_, c1_, c2_, c3_⟩, _, _⟩ := blk4 H1; obtain ⟨⟨d0, d1, d2, d3⟩, _, _⟩ := blk4 H2; have k0 := (hB.cell (p := ⟨b2, o2, none⟩) hb2).trans K0.out; have k1 := (hB.cell (p := ⟨b2, o2 + 1, none⟩) hb2).trans K1.out; have j0 := (hB.cell (p := ⟨b3, o3, none⟩) hb3).trans J0.out; have j1 := (hB.cell (p := ⟨b3, o3 + 1, none⟩) hb3).trans J1.out; go_simp; first | done | with_reducible rfl | (trace_state; fail))
      try simp only [Act.put, List.setIfInBounds_toArray, List.set_cons_zero, List.set_cons_succ]
      refine H_take (i := 57) (v := ?_) rfl (by kernel_rfl) (by kernel_rfl) (by kernel_rfl) (fun _ _ _ h => h) (by rfl) ?_ (by assumption) ?_
      rotate_left
      focus (intro w hSw; obtain ⟨⟨H1, H2⟩, hB⟩ := hSw; obtain ⟨⟨c0_, c1_, c2_, c3_⟩, _, _⟩ := blk4 H1; obtain ⟨⟨d0, d1, d2, d3⟩, _, _⟩ := blk4 H2; have k0 := (hB.cell (p := ⟨b2, o2, none⟩) hb2).trans K0.out; have k1 := (hB.cell (p := ⟨b2, o2 + 1, none⟩) hb2).trans K1.out; have j0 := (hB.cell (p := ⟨b3, o3, none⟩) hb3).trans J0.out; have j1 := (hB.cell (p := ⟨b3, o3 + 1, none⟩) hb3).trans J1.out; go_simp; first | done | with_reducible rfl | (trace_state; fail))
      try simp only [Act.put, List.setIfInBounds_toArray, List.set_cons_zero, List.set_cons_succ]
      refine H_take (i := 58) (v := ?_) rfl (by kernel_rfl) (by kernel_rfl) (by kernel_rfl) (fun _ _ _ h => h) (by rfl) ?_ (by assumption) ?_
      rotate_left
      focus (intro w hSw; obtain ⟨⟨H1, H2⟩, hB⟩ := hSw; obtain ⟨⟨c0_, c1_, c2_, c3_⟩, _, _⟩ := blk4 H1; obtain ⟨⟨d0, d1, d2, d3⟩, _, _⟩ := blk4 H2; have k0 := (hB.cell (p := ⟨b2, o2, none⟩) hb2).trans K0.out; have k1 := (hB.cell (p := ⟨b2, o2 + 1, none⟩) hb2).trans K1.out; have j0 := (hB.cell (p := ⟨b3, o3, none⟩) hb3).trans J0.out; have j1 := (hB.cell (p := ⟨b3, o3 + 1, none⟩) hb3).trans J1.out; go_simp; first | done | with_reducible rfl | (trace_state; fail))
      try simp only [Act.put, List.setIfInBounds_toArray, List.set_cons_zero, List.set_cons_succ]
      refine H_take (i := 59) (v := ?_) rfl (by kernel_rfl) (by kernel_rfl) (by kernel_rfl) (fun _ _ _ h => h) (by rfl) ?_ (by assumption) ?_
      rotate_left
      focus (intro w hSw; obtain ⟨⟨H1, H2⟩, hB⟩ := hSw; obtain ⟨⟨c0_, c1_, c2_, c3_⟩, _, _⟩ := blk4 H1; obtain ⟨⟨d0, d1, d2, d3⟩, _, _⟩ := blk4 H2; have k0 := (hB.cell (p := ⟨b2, o2, none⟩) hb2).trans K0.out; have k1 := (hB.cell (p := ⟨b2, o2 + 1, none⟩) hb2).trans K1.out; have j0 := (hB.cell (p := ⟨b3, o3, none⟩) hb3).trans J0.out; have j1 := (hB.cell (p := ⟨b3, o3 + 1, none⟩) hb3).trans J1.out; go_simp; first | done | with_reducible rfl | (trace_state; fail))
      try simp only [Act.put, List.setIfInBounds_toArray, List.set_cons_zero, List.set_cons_succ]
      refine H_take (i := 60) (v := ?_) rfl (by kernel_rfl) (by kernel_rfl) (by kernel_rfl) (fun _ _ _ h => h) (by rfl) ?_ (by assumption) ?_
      rotate_left
      focus (intro w hSw; obtain ⟨⟨H1, H2⟩, hB⟩ := hSw; obtain ⟨⟨c0_, c1_, c2_, c3_⟩, _, _⟩ := blk4 H1; obtain ⟨⟨d0, d1, d2, d3⟩, _, _⟩ := blk4 H2; have k0 := (hB.cell (p := ⟨b2, o2, none⟩) hb2).trans K0.out; have k1 := (hB.cell (p := ⟨b2, o2 + 1, none⟩) hb2).trans K1.out; have j0 := (hB.cell (p := ⟨b3, o3, none⟩) hb3).trans J0.out; have j1 := (hB.cell (p := ⟨b3, o3 + 1, none⟩) hb3).trans J1.out; go_simp; first | done | with_reducible rfl | (trace_state; fail))
      try simp only [Act.put, List.setIfInBounds_toArray, List.set_cons_zero, List.set_cons_succ]
      refine H_take (i := 61) (v := ?_) rfl (by kernel_rfl) (by kernel_rfl) (by kernel_rfl) (fun _ _ _ h => h) (by rfl) ?_ (by assumption) ?_
      rotate_left
      focus (intro w hSw; obtain ⟨⟨H1, H2⟩, hB⟩ := hSw; obtain ⟨⟨c0_, c1_, c2_, c3_⟩, _, _⟩ := blk4 H1; obtain ⟨⟨d0, d1, d2, d3⟩, _, _⟩ := blk4 H2; have k0 := (hB.cell (p := ⟨b2, o2, none⟩) hb2).trans K0.out; have k1 := (hB.cell (p := ⟨b2, o2 + 1, none⟩) hb2).trans K1.out; have j0 := (hB.cell (p := ⟨b3, o3, none⟩) hb3).trans J0.out; have j1 := (hB.cell (p := ⟨b3, o3 + 1, none⟩) hb3).trans J1.out; go_simp; first | done | with_reducible rfl | (trace_state; fail))
      try simp only [Act.put, List.setIfInBounds_toArray, List.set_cons_zero, List.set_cons_succ]
      refine wpAnyH_done (by kernel_rfl) ?_ _
      go_wp2_with fail
      go_meet
      exact ⟨rfl, hHeld.2⟩
  case rest =>
  as_aux_lemma =>
  obtain ⟨rfl, hbx⟩ := hcut
  rename World => w7
  have Ta7 := Lib.hid (Ta6.out.later hbx)
  have L7 := Lib.hid (L6.out.later hbx)
  have X7 := Lib.hid (X6.out.later hbx)
  have Y7 := Lib.hid (Y6.out.later hbx)
  have Z7 := Lib.hid (Z6.out.later hbx)
  have Sa7 := Lib.hid (Sa6.out.later hbx)
  have Sb7 := Lib.hid (Sb6.out.later hbx)
  have B7_ := Lib.hid (Below.via hbx B6_.out B6_.out.size)
  clear hbx Ta6 Tb6 L6 X6 Y6 Z6 Sa6 Sb6 B6_ HSM HSM2
  have hmk := fun W => run_makeN (P := Try.prog) 38 4 i0 (.bool false) Try.underlying38 HI.out.1 HI.out.2.1 .i64 .i64 n1 n1 (Nat.le_refl _) (by rw [HI.out.2.2.2]; omega) (by omega) W
  rw [HI.out.2.2.1, tkA_zero l n1] at hmk
  obtain ⟨⟨y0, y1, y2, y3⟩, _, hyl⟩ := blk4 Y7.out
  go_wp2_with fail
  clear y0 y1 y2 y3 hmk
  go_loopw [12, 14] (fun s12 s14 wr => ∃ i : Nat, i ≤ Ln ∧ s12 = .int .i64 (gainV d.pits l i) ∧ s14 = .int .i64 i ∧ Blk wr w7.heap.size 4 (tkA n1 l i) ∧ Below w7.heap.size w7 wr) (fun _ s14 _ => Ln - (intOf s14).toNat)
  case atStart => exact ⟨0, Nat.zero_le _, rfl, rfl, Blk.new _ _ _, by (repeat' (first | (with_reducible exact Below.refl _ _) | (with_reducible assumption) | (with_reducible refine Below.alloc ?_ ?_ _) | (with_reducible refine Below.drew ?_) | (with_reducible refine belowDrewN ?_ _) | (with_reducible refine Below.setCell ?_ ?_ _) | (with_reducible refine Below.via (by with_reducible assumption) ?_ ?_) | (with_reducible refine Below.viaD (by with_reducible assumption) ?_ ?_) | (with_reducible exact Below.size (by with_reducible assumption)) | go_size | (with_reducible refine Nat.le_trans ?_ (Below.size (by with_reducible assumption))) | (with_reducible refine Nat.le_trans ?_ (sizeAlloc _ _)) | (with_reducible refine Nat.le_trans ?_ (sizeSet _ _ _)) | (with_reducible refine Nat.le_trans ?_ (sizeDrew _))))⟩
  case round =>
    obtain ⟨i, hi, rfl, rfl, hbk, hbl⟩ := hrel
    rename World => wo
    have HBK := Lib.hid hbk
    have HBL := Lib.hid hbl
    have hgl := hbk.lt
    by_cases hlt : i < Ln
    case pos =>
      as_aux_lemma =>
      obtain ⟨m, hm, hmn, hmf, hgn, hg0, hg1, hzb0, hzb1⟩ := capF_round HF.out HN1.out (show i < l.length by rw [HLN.out]; exact hlt)
      obtain ⟨b4, o4, z4, rfl, hb4, hZ4, c4⟩ := (L7.out.below hbl).int hlt
      have hz4 : z4 = (m : Int) := by rw [← hZ4.out]; exact hm
      subst hz4
      obtain ⟨b5, o5, z5, rfl, hb5, hZ5, c5⟩ := (Sa7.out.below hbl).int hmn
      rw [hZ5.out] at hgn hzb0 hzb1
      have s5 := (hbk.cell m).trans (tkA_at hmn hmf)
      have f5 := hbk.free m
      obtain ⟨⟨y0, y1, y2, y3⟩, _, hyl'⟩ := blk4 (Y7.out.below hbl hyl)
      have HM := Lib.hid hm
      have HG := Lib.hid hgn
      have hne4 : b4 ≠ w7.heap.size := by omega
      have hne5 : b5 ≠ w7.heap.size := by omega
      have hneb : bs ≠ w7.heap.size := by omega
      have hd1 : ¬ (m : Int) < 0 := by omega
      have hd2 : ¬ ((n1 : Nat) : Int) ≤ (m : Int) := by omega
      have hlt' : (i : Int) < (Ln : Int) := by omega
      have hmlt : (m : Int) < (n1 : Int) := by omega
      clear hm hmf hgn hbk hbl
      obtain ⟨u, hu⟩ : ∃ u, gainV d.pits l i = u := ⟨_, rfl⟩
      rw [hu] at HG hg0 hg1
      rw [hu]
      clear hu
      have hwu : IntKind.i64.wrap (u + z5) = u + z5 := IntWalk.i64_in _ (by omega)
      go_wp2_with fail
      first | (refine wp_region_quiet_lit (by kernel_rfl) (by kernel_rfl) ?_; refine WQ.of ?_; (repeat (refine WQ.step (fun K hK => ?_); go_simp; first | (refine hK _ ?_; clear hK K) | (apply Exists.intro; refine ⟨fun _ => ?_, hK _ ?_⟩; (fail); clear hK K))); refine WQ.nil ?_; intro _ hw'; obtain ⟨nq, hw''⟩ := hw'; subst hw'') | go_quiet (fail)
      go_wp2_with fail
      first | (refine wp_region_quiet_lit (by kernel_rfl) (by kernel_rfl) ?_; refine WQ.of ?_; (repeat (refine WQ.step (fun K hK => ?_); go_simp; first | (refine hK _ ?_; clear hK K) | (apply Exists.intro; refine ⟨fun _ => ?_, hK _ ?_⟩; (fail); clear hK K))); refine WQ.nil ?_; intro _ hw'; obtain ⟨nq, hw''⟩ := hw'; subst hw'') | go_quiet (fail)
      go_wp2_with fail
      go_roundw
      case rel => exact ⟨i + 1, by omega, (by first | exact congrArg (Value.int .i64) HG.out.symm | exact congrArg (Value.int .i64) (hwu.trans HG.out.symm)), by first | rfl | go_num, by rw [← tkA_set HM.out]; exact HBK.out.set m (.bool true), (by have := HBL.out; (repeat' (first | (with_reducible exact Below.refl _ _) | (with_reducible assumption) | (with_reducible refine Below.alloc ?_ ?_ _) | (with_reducible refine Below.drew ?_) | (with_reducible refine belowDrewN ?_ _) | (with_reducible refine Below.setCell ?_ ?_ _) | (with_reducible refine Below.via (by with_reducible assumption) ?_ ?_) | (with_reducible refine Below.viaD (by with_reducible assumption) ?_ ?_) | (with_reducible exact Below.size (by with_reducible assumption)) | go_size | (with_reducible refine Nat.le_trans ?_ (Below.size (by with_reducible assumption))) | (with_reducible refine Nat.le_trans ?_ (sizeAlloc _ _)) | (with_reducible refine Nat.le_trans ?_ (sizeSet _ _ _)) | (with_reducible refine Nat.le_trans ?_ (sizeDrew _)))))⟩
      case measure => first | (simp [intOf]; done) | (simp [intOf]; omega)
    case neg =>
      as_aux_lemma =>
      obtain rfl : i = Ln := by omega
      have hlt' : ¬ (i : Int) < (i : Int) := by omega
      have hgv : gainV d.pits l i = v := by rw [← HF.out.hv, HLN.out]
      rw [hgv]
      clear hgv hbk hbl
      go_wp2_with fail
      go_loopw [15] (fun s15 wr => ∃ k : Nat, k ≤ n1 ∧ s15 = .int .i64 k ∧ Blk wr w7.heap.size 4 (tkA n1 l i) ∧ Below w7.heap.size w7 wr) (fun s15 _ => n1 - (intOf s15).toNat)
      case atStart => exact ⟨0, Nat.zero_le _, rfl, HBK.out, HBL.out⟩
      case round =>
        obtain ⟨k, hk, rfl, hbk, hbl⟩ := hrel
        rename World => wk
        have HBK2 := Lib.hid hbk
        have HBL2 := Lib.hid hbl
        by_cases hlk : k < n1
        case pos =>
          obtain ⟨b5, o5, z5, rfl, hb5, hZ5, c5⟩ := (Sa7.out.below hbl).int hlk
          obtain ⟨b6, o6, z6, rfl, hb6, hZ6, c6⟩ := (Ta7.out.below hbl).int hlk
          obtain ⟨t, ht⟩ : ∃ t, (tkL n1 l i).getD k false = t := ⟨_, rfl⟩
          have s5 := (hbk.cell k).trans (tkA_at hlk ht)
          have he := capF_end HF.out HN1.out k
          rw [HLN.out, ht, hZ5.out, hZ6.out] at he
          obtain ⟨⟨y0, y1, y2, y3⟩, _, hyl'⟩ := blk4 (Y7.out.below hbl hyl)
          obtain ⟨⟨x0, x1, x2, x3⟩, _, hxl'⟩ := blk4 (Z7.out.below hbl Z7.out.lt)
          have hlk' : (k : Int) < (n1 : Int) := by omega
          clear ht hbk hbl hZ5 hZ6
          cases t
          case false =>
            obtain rfl := he.2 rfl
            have ez : (z6 != z6) = false := by rw [bne, beq_self_eq_true]; rfl
            clear he
            go_wp2_with fail
            first | (refine wp_region_quiet_lit (by kernel_rfl) (by kernel_rfl) ?_; refine WQ.of ?_; (repeat (refine WQ.step (fun K hK => ?_); go_simp; first | (refine hK _ ?_; clear hK K) | (apply Exists.intro; refine ⟨fun _ => ?_, hK _ ?_⟩; (fail); clear hK K))); refine WQ.nil ?_; intro _ hw'; obtain ⟨nq, hw''⟩ := hw'; subst hw'') | go_quiet (fail)
            go_wp2_with fail
            go_roundw
            case rel => exact ⟨k + 1, by omega, by first | rfl | go_num, HBK2.out, (by have := HBL2.out; (repeat' (first | (with_reducible exact Below.refl _ _) | (with_reducible assumption) | (with_reducible refine Below.alloc ?_ ?_ _) | (with_reducible refine Below.drew ?_) | (with_reducible refine belowDrewN ?_ _) | (with_reducible refine Below.setCell ?_ ?_ _) | (with_reducible refine Below.via (by with_reducible assumption) ?_ ?_) | (with_reducible refine Below.viaD (by with_reducible assumption) ?_ ?_) | (with_reducible exact Below.size (by with_reducible assumption)) | go_size | (with_reducible refine Nat.le_trans ?_ (Below.size (by with_reducible assumption))) | (with_reducible refine Nat.le_trans ?_ (sizeAlloc _ _)) | (with_reducible refine Nat.le_trans ?_ (sizeSet _ _ _)) | (with_reducible refine Nat.le_trans ?_ (sizeDrew _)))))⟩
            case measure => first | (simp [intOf]; done) | (simp [intOf]; omega)
          case true =>
            obtain rfl := he.1 rfl
            have ez : ((0 : Int) != 0) = false := by decide
            clear he
            go_wp2_with fail
            first | (refine wp_region_quiet_lit (by kernel_rfl) (by kernel_rfl) ?_; refine WQ.of ?_; (repeat (refine WQ.step (fun K hK => ?_); go_simp; first | (refine hK _ ?_; clear hK K) | (apply Exists.intro; refine ⟨fun _ => ?_, hK _ ?_⟩; (fail); clear hK K))); refine WQ.nil ?_; intro _ hw'; obtain ⟨nq, hw''⟩ := hw'; subst hw'') | go_quiet (fail)
            go_wp2_with fail
            go_roundw
            case rel => exact ⟨k + 1, by omega, by first | rfl | go_num, HBK2.out, (by have := HBL2.out; (repeat' (first | (with_reducible exact Below.refl _ _) | (with_reducible assumption) | (with_reducible refine Below.alloc ?_ ?_ _) | (with_reducible refine Below.drew ?_) | (with_reducible refine belowDrewN ?_ _) | (with_reducible refine Below.setCell ?_ ?_ _) | (with_reducible refine Below.via (by with_reducible assumption) ?_ ?_) | (with_reducible refine Below.viaD (by with_reducible assumption) ?_ ?_) | (with_reducible exact Below.size (by with_reducible assumption)) | go_size | (with_reducible refine Nat.le_trans ?_ (Below.size (by with_reducible assumption))) | (with_reducible refine Nat.le_trans ?_ (sizeAlloc _ _)) | (with_reducible refine Nat.le_trans ?_ (sizeSet _ _ _)) | (with_reducible refine Nat.le_trans ?_ (sizeDrew _)))))⟩
            case measure => first | (simp [intOf]; done) | (simp [intOf]; omega)
        case neg =>
          as_aux_lemma =>
          obtain rfl : k = n1 := by omega
          have hlk' : ¬ (k : Int) < (k : Int) := by omega
          obtain ⟨⟨y0, y1, y2, y3⟩, _, hyl'⟩ := blk4 (Y7.out.below hbl hyl)
          obtain ⟨⟨x0, x1, x2, x3, x4, x5, x6, x7, x8⟩, _, hxl'⟩ := blk9 (X7.out.below hbl X7.out.lt)
          obtain ⟨q, hq⟩ : ∃ q, slamR r d p = q := ⟨_, rfl⟩
          have HQ := Lib.hid hq
          have HSL := Lib.hid (HF.out.slam q hq)
          have HNO := Lib.hid HF.out.none
          have hzk := hbl.size
          clear hq hbk
          go_wp2_with fail
          refine (IsSlam_any r A1 A2 k c1 2 c2 d p q wk ((Sa7.out.below hbl).mono hzk) ((Sb7.out.below hbl).mono hzk) hc1 hcm hsz HQ.out).mono ?_
          rintro e wz ⟨rfl, hz⟩
          obtain ⟨⟨x0, x1, x2, x3, x4, x5, x6, x7, x8⟩, _, hxl''⟩ := blk9 ((X7.out.below hbl X7.out.lt).later hz)
          have BZ := Lib.hid (Below.via hz (Below.via HBL2.out B7_.out B7_.out.size) (Below.via HBL2.out B7_.out B7_.out.size).size)
          have evv : (v == v) = true := beq_self_eq_true _
          clear hz hbl HBK HBL HBK2 HBL2 y0 y1 y2 y3
          by_cases hv : v = 0
          · have hvb : (v != 0) = false := by rw [hv]; decide
            have hvc : (v == 0) = true := by rw [hv]; decide
            clear hv
            cases q <;> cases hs2 : (r.sl == 2) <;> cases hc0 : (r.ca != 0)
            all_goals
              go_wp2_with fail
              go_ret
              exact ⟨rfl, BZ.out⟩
          · have hca : (r.ca != 0) = true := by rw [bne_iff_ne]; exact fun h => hv (HNO.out h)
            cases q
            case false =>
              go_wp2_with fail
              go_ret
              exact ⟨rfl, BZ.out⟩
            case true =>
              have hs2 : (r.sl == 2) = false := by rw [beq_eq_false_iff_ne]; exact fun h => hv (HSL.out rfl h)
              go_wp2_with fail
              go_ret
              exact ⟨rfl, BZ.out⟩
end Go.Proofs.Ytcfbihponecblaa
