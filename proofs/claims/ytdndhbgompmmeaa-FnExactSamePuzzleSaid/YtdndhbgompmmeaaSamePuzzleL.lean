/- SamePuzzle: the law. No conditions. -/
import Derived.Test.YtdndhbgompmmeaaSamePuz2
import Derived.Deep.DeepCutAuto
namespace Go.Proofs.Ytdndhbgompmmeaa
set_option linter.unusedSimpArgs false
set_option linter.unusedVariables false
open Go.RowKit

theorem Blk.drewT {w w' : World} {g : Nat} {t : TypeId} {cs : Array Value} (h : Blk w g t cs) (hb : Below w.drew.heap.size w.drew w') : Blk w' g t cs := h.later (Below.undrew hb)
set_option maxRecDepth 100000 in
set_option maxHeartbeats 4000000 in
theorem samePuzzle_walk (cs : List Value) (d : PuzzleD) (cs' : List Value) (d' : PuzzleD) (w : World) (h : XPuzzle w cs d) (h' : XPuzzle w cs' d') : Calls Try.prog 9 #[.agg cs.toArray, .agg cs'.toArray] w fun e w' => e = .returned (.bool true) ∧ Below w.heap.size w w' := by
  obtain ⟨a0, a1, a2, a3, a4, a5, a6, a7, a8, a9, a10, a11, a12, a13, a14, a15, rfl⟩ := list16 h.len
  obtain ⟨b0, b1, b2, b3, b4, b5, b6, b7, b8, b9, b10, b11, b12, b13, b14, b15, rfl⟩ := list16 h'.len
  by_cases hbig : (szPuzzle d : Int) ≤ 1048576
  case neg =>
    go_enter Try.func9, Try.ntmps9
    go_wp2_with fail
    refine (szPuzzle_gt [a0, a1, a2, a3, a4, a5, a6, a7, a8, a9, a10, a11, a12, a13, a14, a15] d 1048576 _ ((h.boxed _).boxed _) (by omega) (by omega) (by omega)).mono ?_
    rintro e w1 ⟨rfl, hb1⟩
    go_wp2_with fail
    go_ret
    exact ⟨rfl, by (repeat' (first | (with_reducible exact Below.refl _ _) | (with_reducible assumption) | (with_reducible refine Below.alloc ?_ ?_ _) | (with_reducible refine Below.drew ?_) | (with_reducible refine belowDrewN ?_ _) | (with_reducible refine Below.setCell ?_ ?_ _) | (with_reducible refine Below.via (by with_reducible assumption) ?_ ?_) | (with_reducible refine Below.viaD (by with_reducible assumption) ?_ ?_) | (with_reducible exact Below.size (by with_reducible assumption)) | go_size | (with_reducible refine Nat.le_trans ?_ (Below.size (by with_reducible assumption))) | (with_reducible refine Nat.le_trans ?_ (sizeAlloc _ _)) | (with_reducible refine Nat.le_trans ?_ (sizeSet _ _ _)) | (with_reducible refine Nat.le_trans ?_ (sizeDrew _))))⟩
  case pos =>
    by_cases hbig2 : (szPuzzle d' : Int) ≤ 1048576 - (szPuzzle d : Int)
    case neg =>
      go_enter Try.func9, Try.ntmps9
      go_wp2_with fail
      refine (szPuzzle_le [a0, a1, a2, a3, a4, a5, a6, a7, a8, a9, a10, a11, a12, a13, a14, a15] d 1048576 _ ((h.boxed _).boxed _) (by omega) (by omega)).mono ?_
      rintro e w1 ⟨rfl, hb1⟩
      have KB := (Blk.new (w.alloc (.cells #[a0, a1, a2, a3, a4, a5, a6, a7, a8, a9, a10, a11, a12, a13, a14, a15] 73)) 73 #[b0, b1, b2, b3, b4, b5, b6, b7, b8, b9, b10, b11, b12, b13, b14, b15]).later hb1
      have hKB := KB.cell
      simp only [World.size_alloc] at hKB
      have B1 := below_boxed (below_boxed hb1)
      clear KB
      go_wp2_with fail
      refine (szPuzzle_gt [b0, b1, b2, b3, b4, b5, b6, b7, b8, b9, b10, b11, b12, b13, b14, b15] d' (1048576 - (szPuzzle d : Int)) _ (h'.later B1) (by omega) (by omega) (by omega)).mono ?_
      rintro e w2 ⟨rfl, hb2⟩
      go_wp2_with fail
      go_ret
      exact ⟨rfl, Below.via hb2 B1 B1.size⟩
    case pos =>
      obtain ⟨r, hr⟩ : ∃ r, samePuzzle d d' = r := ⟨_, rfl⟩
      have hq : (r != r) = false := by simp
      have HR := Lib.hid hr
      clear hr
      go_enter Try.func9, Try.ntmps9
      go_wp2_with fail
      refine (szPuzzle_le [a0, a1, a2, a3, a4, a5, a6, a7, a8, a9, a10, a11, a12, a13, a14, a15] d 1048576 _ ((h.boxed _).boxed _) (by omega) (by omega)).mono ?_
      rintro e w1 ⟨rfl, hb1⟩
      have KA1 := ((Blk.new w 73 #[a0, a1, a2, a3, a4, a5, a6, a7, a8, a9, a10, a11, a12, a13, a14, a15]).later (boxed_ _ (.cells #[b0, b1, b2, b3, b4, b5, b6, b7, b8, b9, b10, b11, b12, b13, b14, b15] 73))).later hb1
      have KB1 := (Blk.new (w.alloc (.cells #[a0, a1, a2, a3, a4, a5, a6, a7, a8, a9, a10, a11, a12, a13, a14, a15] 73)) 73 #[b0, b1, b2, b3, b4, b5, b6, b7, b8, b9, b10, b11, b12, b13, b14, b15]).later hb1
      simp only [World.size_alloc] at KB1
      have B1 := below_boxed (below_boxed hb1)
      have hA1 := KA1.cell
      have hB1 := KB1.cell
      have HA1 := Lib.hid KA1
      have HB1 := Lib.hid KB1
      clear KA1 KB1
      go_wp2_with fail
      refine (szPuzzle_le [b0, b1, b2, b3, b4, b5, b6, b7, b8, b9, b10, b11, b12, b13, b14, b15] d' (1048576 - (szPuzzle d : Int)) _ (h'.later B1) (by omega) (by omega)).mono ?_
      rintro e w2 ⟨rfl, hb2⟩
      have HA2 := Lib.hid (HA1.out.later hb2)
      have HB2 := Lib.hid (HB1.out.later hb2)
      have B2 := Below.via hb2 B1 B1.size
      clear hA1 hB1 HA1 HB1
      have hA2 := HA2.out.cell
      have hB2 := HB2.out.cell
      have sA2d : Hid (XPuzzle w2.drew [a0, a1, a2, a3, a4, a5, a6, a7, a8, a9, a10, a11, a12, a13, a14, a15] d) := (h.later B2).drew
      have sB2 := Lib.hid (h'.later B2)
      go_upto_region 8 with fail
      go_cut [6] (fun s6 wx => s6 = .bool r ∧ Blk wx w.heap.size 73 #[a0, a1, a2, a3, a4, a5, a6, a7, a8, a9, a10, a11, a12, a13, a14, a15] ∧ Blk wx (w.heap.size + 1) 73 #[b0, b1, b2, b3, b4, b5, b6, b7, b8, b9, b10, b11, b12, b13, b14, b15] ∧ Below w.heap.size w wx)
      case first => as_aux_lemma =>
       go_region_with (first
        | (go_at_call 47; ((with_reducible refine (toPuzzle_any [a0, a1, a2, a3, a4, a5, a6, a7, a8, a9, a10, a11, a12, a13, a14, a15] d _ sA2d.out (by omega)).mono ?_)); rintro e w3 ⟨cs3, rfl, len3, k3, hb3⟩; have HA3 := Lib.hid (HA2.out.drewT hb3); have HB3 := Lib.hid (HB2.out.drewT hb3); have hA3 := HA3.out.cell; have hB3 := HB3.out.cell; have sB3 := Lib.hid (sB2.out.later (Below.undrew hb3)); have HK3 := Lib.hid k3.now; have B3 := Below.via (Below.undrew hb3) B2 B2.size; clear k3 len3)
        | (go_at_call 47; ((with_reducible refine (toPuzzle_any [b0, b1, b2, b3, b4, b5, b6, b7, b8, b9, b10, b11, b12, b13, b14, b15] d' _ sB3.out (by omega)).mono ?_)); rintro e w4 ⟨cs4, rfl, len4, k4, hb4⟩; have HA4 := Lib.hid (HA3.out.later hb4); have HB4 := Lib.hid (HB3.out.later hb4); have hA4 := HA4.out.cell; have hB4 := HB4.out.cell; have HK4 := Lib.hid k4.now; have HK34 := Lib.hid (HK3.out.later hb4); have B4 := Below.via hb4 B3 B3.size; clear k4 len4)
        | (go_at_call 46; refine (sSamePuzzle_any cs3 cs4 d d' _ HK34.out HK4.out).mono ?_; rw [HR.out]; rintro e w5 ⟨rfl, hb5⟩; have HA5 := Lib.hid (HA4.out.later hb5); have HB5 := Lib.hid (HB4.out.later hb5); have B5 := Below.via hb5 B4 B4.size))
       all_goals
        go_wp2_with fail
        go_meet
        exact ⟨rfl, HA5.out, HB5.out, B5⟩
      case rest => as_aux_lemma =>
        obtain ⟨rfl, KA, KB, B5⟩ := hcut
        rename World => w5
        have HA5 := Lib.hid KA
        have HB5 := Lib.hid KB
        have hA5 := KA.cell
        have hB5 := KB.cell
        have lA5 := KA.lt
        have lB5 := KB.lt
        clear KA KB hA2 hB2 HA2 HB2 sB2 sA2d
        go_wp2_with fail
        refine (toPuzzle_any [a0, a1, a2, a3, a4, a5, a6, a7, a8, a9, a10, a11, a12, a13, a14, a15] d _ (h.later B5) (by omega)).mono ?_
        rintro e w6 ⟨cs6, rfl, len6, k6, hb6⟩
        as_aux_lemma =>
        obtain ⟨A1, n1, c1, A2, n2, c2, e6, s61, l61, s62, l62⟩ := k6.now
        subst e6
        clear s61 l61 s62 l62
        have HA6 := Lib.hid (HA5.out.later hb6)
        have HB6 := Lib.hid (HB5.out.later hb6)
        have HK6 := Lib.hid k6.now
        have B6 := Below.via hb6 B5 B5.size
        clear hA5 hB5 lA5 lB5 HA5 HB5 k6 len6
        have hA6 := HA6.out.cell
        have hB6 := HB6.out.cell
        have lA6 := HA6.out.lt
        have lB6 := HB6.out.lt
        go_wp2_with fail
        refine (toPuzzle_any [b0, b1, b2, b3, b4, b5, b6, b7, b8, b9, b10, b11, b12, b13, b14, b15] d' _ ((h'.later B6).boxed _) (by omega)).mono ?_
        rintro e w7 ⟨cs7, rfl, len7, k7, hb7⟩
        as_aux_lemma =>
        obtain ⟨A3, n3, c3, A4, n4, c4, e7, s71, l71, s72, l72⟩ := k7.now
        subst e7
        clear s71 l71 s72 l72
        have HA7 := Lib.hid (HA6.out.later (below_boxed hb7))
        have HB7 := Lib.hid (HB6.out.later (below_boxed hb7))
        have HX7 : Hid (Blk w7 w6.heap.size 77 #[.int .i64 d.r.p, .int .i64 d.r.s, .bool d.r.st, .bool d.r.sk, .bool d.r.re, .bool d.r.fe, .bool d.r.ag, .int .i64 d.r.ca, .int .i64 d.r.sl, .slice A1 n1 c1, .slice A2 n2 c2, .int .i64 d.pos.player, .int .i64 d.depth, .int .i64 d.move, .int .i64 d.value, .int .i64 d.margin]) := (Blk.new w6 _ _).later hb7
        have HK7 := Lib.hid (HK6.out.later (below_boxed hb7))
        have HL7 := Lib.hid k7.now
        have B7 := Below.via (below_boxed hb7) B6 B6.size
        clear hA6 hB6 lA6 lB6 HA6 HB6 HK6 k7 len7
        have hA7 := HA7.out.cell
        have hB7 := HB7.out.cell
        have hX7 := HX7.out.cell
        have lA7 := HA7.out.lt
        have lB7 := HB7.out.lt
        have lX7 := HX7.out.lt
        go_wp2_with fail
        refine (SamePuzzle_any [.int .i64 d.r.p, .int .i64 d.r.s, .bool d.r.st, .bool d.r.sk, .bool d.r.re, .bool d.r.fe, .bool d.r.ag, .int .i64 d.r.ca, .int .i64 d.r.sl, .slice A1 n1 c1, .slice A2 n2 c2, .int .i64 d.pos.player, .int .i64 d.depth, .int .i64 d.move, .int .i64 d.value, .int .i64 d.margin] [.int .i64 d'.r.p, .int .i64 d'.r.s, .bool d'.r.st, .bool d'.r.sk, .bool d'.r.re, .bool d'.r.fe, .bool d'.r.ag, .int .i64 d'.r.ca, .int .i64 d'.r.sl, .slice A3 n3 c3, .slice A4 n4 c4, .int .i64 d'.pos.player, .int .i64 d'.depth, .int .i64 d'.move, .int .i64 d'.value, .int .i64 d'.margin] d d' _ (HK7.out.boxed _) (HL7.out.boxed _)).mono ?_
        rw [HR.out]
        rintro e w8 ⟨rfl, hb8⟩
        as_aux_lemma =>
        have HA8 := Lib.hid (HA7.out.later (below_boxed hb8))
        have HB8 := Lib.hid (HB7.out.later (below_boxed hb8))
        have HX8 := Lib.hid (HX7.out.later (below_boxed hb8))
        have HY8 : Hid (Blk w8 w7.heap.size 77 #[.int .i64 d'.r.p, .int .i64 d'.r.s, .bool d'.r.st, .bool d'.r.sk, .bool d'.r.re, .bool d'.r.fe, .bool d'.r.ag, .int .i64 d'.r.ca, .int .i64 d'.r.sl, .slice A3 n3 c3, .slice A4 n4 c4, .int .i64 d'.pos.player, .int .i64 d'.depth, .int .i64 d'.move, .int .i64 d'.value, .int .i64 d'.margin]) := (Blk.new w7 _ _).later hb8
        have HK8 := Lib.hid (HK7.out.later (below_boxed hb8))
        have HL8 := Lib.hid (HL7.out.later (below_boxed hb8))
        have B8 := Below.via (below_boxed hb8) B7 B7.size
        have sA8 : Hid (XPuzzle w8.drew [a0, a1, a2, a3, a4, a5, a6, a7, a8, a9, a10, a11, a12, a13, a14, a15] d) := (h.later B8).drew
        clear hA7 hB7 lA7 lB7 HA7 HB7 HK7 HL7 hX7 lX7 HX7
        have hA8 := HA8.out.cell
        have hB8 := HB8.out.cell
        have hX8 := HX8.out.cell
        have hY8 := HY8.out.cell
        go_upto_region 14 with fail
        go_cut [39] (fun s39 wx => s39 = .bool false ∧ Blk wx (w.heap.size + 1) 73 #[b0, b1, b2, b3, b4, b5, b6, b7, b8, b9, b10, b11, b12, b13, b14, b15] ∧ Blk wx w7.heap.size 77 #[.int .i64 d'.r.p, .int .i64 d'.r.s, .bool d'.r.st, .bool d'.r.sk, .bool d'.r.re, .bool d'.r.fe, .bool d'.r.ag, .int .i64 d'.r.ca, .int .i64 d'.r.sl, .slice A3 n3 c3, .slice A4 n4 c4, .int .i64 d'.pos.player, .int .i64 d'.depth, .int .i64 d'.move, .int .i64 d'.value, .int .i64 d'.margin] ∧ XPuzzle wx [.int .i64 d'.r.p, .int .i64 d'.r.s, .bool d'.r.st, .bool d'.r.sk, .bool d'.r.re, .bool d'.r.fe, .bool d'.r.ag, .int .i64 d'.r.ca, .int .i64 d'.r.sl, .slice A3 n3 c3, .slice A4 n4 c4, .int .i64 d'.pos.player, .int .i64 d'.depth, .int .i64 d'.move, .int .i64 d'.value, .int .i64 d'.margin] d' ∧ Below w.heap.size w wx)
        case first => as_aux_lemma =>
         go_region_with (first
          | (go_at_call 47; refine (toPuzzle_any [a0, a1, a2, a3, a4, a5, a6, a7, a8, a9, a10, a11, a12, a13, a14, a15] d _ sA8.out (by omega)).mono ?_; rintro e w9 ⟨cs9, rfl, len9, k9, hb9⟩; have HB9 := Lib.hid (HB8.out.drewT hb9); have HX9 := Lib.hid (HX8.out.drewT hb9); have HY9 := Lib.hid (HY8.out.drewT hb9); have hX9 := HX9.out.cell; have HK9 := Lib.hid (HK8.out.later (Below.undrew hb9)); have HL9 := Lib.hid (HL8.out.later (Below.undrew hb9)); have HM9 := Lib.hid k9.now; have B9 := Below.via (Below.undrew hb9) B8 B8.size; clear k9 len9)
          | (go_at_call 49; refine (eqPuzzle_same [.int .i64 d.r.p, .int .i64 d.r.s, .bool d.r.st, .bool d.r.sk, .bool d.r.re, .bool d.r.fe, .bool d.r.ag, .int .i64 d.r.ca, .int .i64 d.r.sl, .slice A1 n1 c1, .slice A2 n2 c2, .int .i64 d.pos.player, .int .i64 d.depth, .int .i64 d.move, .int .i64 d.value, .int .i64 d.margin] cs9 d _ HK9.out HM9.out).mono ?_; rintro e w10 ⟨rfl, hb10⟩; have HB10 := Lib.hid (HB9.out.later hb10); have HY10 := Lib.hid (HY9.out.later hb10); have HL10 := Lib.hid (HL9.out.later hb10); have B10 := Below.via hb10 B9 B9.size))
         all_goals
          go_wp2_with fail
          go_meet
          exact ⟨rfl, HB10.out, HY10.out, HL10.out, B10⟩
        case rest => as_aux_lemma =>
          obtain ⟨rfl, KB, KY, KL, B10⟩ := hcut
          rename World => w10
          have HB10 := Lib.hid KB
          have HY10 := Lib.hid KY
          have HL10 := Lib.hid KL
          have hB10 := KB.cell
          have hY10 := KY.cell
          have sB10 : Hid (XPuzzle w10.drew [b0, b1, b2, b3, b4, b5, b6, b7, b8, b9, b10, b11, b12, b13, b14, b15] d') := (h'.later B10).drew
          clear KB KY KL hA8 hB8 hX8 hY8 HA8 HB8 HX8 HY8 sA8 HK8 HL8
          go_wp2_with fail
          go_region_with (first
            | (go_at_call 47; refine (toPuzzle_any [b0, b1, b2, b3, b4, b5, b6, b7, b8, b9, b10, b11, b12, b13, b14, b15] d' _ sB10.out (by omega)).mono ?_; rintro e w11 ⟨cs11, rfl, len11, k11, hb11⟩; have HY11 := Lib.hid (HY10.out.drewT hb11); have hY11 := HY11.out.cell; have HL11 := Lib.hid (HL10.out.later (Below.undrew hb11)); have HM11 := Lib.hid k11.now; have B11 := Below.via (Below.undrew hb11) B10 B10.size; clear k11 len11)
            | (go_at_call 49; refine (eqPuzzle_same [.int .i64 d'.r.p, .int .i64 d'.r.s, .bool d'.r.st, .bool d'.r.sk, .bool d'.r.re, .bool d'.r.fe, .bool d'.r.ag, .int .i64 d'.r.ca, .int .i64 d'.r.sl, .slice A3 n3 c3, .slice A4 n4 c4, .int .i64 d'.pos.player, .int .i64 d'.depth, .int .i64 d'.move, .int .i64 d'.value, .int .i64 d'.margin] cs11 d' _ HL11.out HM11.out).mono ?_; rintro e w12 ⟨rfl, hb12⟩; have B12 := Below.via hb12 B11 B11.size))
          all_goals
            go_wp2_with fail
            go_ret
            exact ⟨rfl, B12⟩
end Go.Proofs.Ytdndhbgompmmeaa
