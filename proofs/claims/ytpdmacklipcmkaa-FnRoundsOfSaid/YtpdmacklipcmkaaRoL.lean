/- FnRoundsOf: the law. No conditions. -/
import Derived.Test.YtpdmacklipcmkaaRrG
import Derived.Test.YtpdmacklipcmkaaPair4
import Derived.Test.YtpdmacklipcmkaaMeet3
namespace Go.Proofs.Ytpdmacklipcmkaa
set_option linter.unusedSimpArgs false
set_option linter.unusedVariables false
open Go.RowKit Go.WideShapes

def foundR (zs : List Int) (x y : Int) : Nat → Bool
  | 0 => false
  | k + 1 => foundR zs x y k || (zs.getD (k * 2) 0 == x && zs.getD (k * 2 + 1) 0 == y)
def roMt (n a b : Nat) : Bool := meetA n (rofN n (min a b) (max a b)) (min a b) (max a b) == a
theorem found_all : (List.range 13).all (fun n => decide (n < 2) || (List.range n).all (fun a => (List.range n).all (fun b => (a == b) || (decide (rofN n (min a b) (max a b) < rdN n) && foundR (rrS n (rofN n (min a b) (max a b)) n) ((if roMt n a b then a else b : Nat) : Int) ((if roMt n a b then b else a : Nat) : Int) (n / 2))))) = true := by decide +kernel
theorem found_of {n a b : Nat} (h0 : 2 ≤ n) (h1 : n ≤ 12) (ha : a < n) (hb : b < n) (hab : a ≠ b) : rofN n (min a b) (max a b) < rdN n ∧ foundR (rrS n (rofN n (min a b) (max a b)) n) ((if roMt n a b then a else b : Nat) : Int) ((if roMt n a b then b else a : Nat) : Int) (n / 2) = true := by
  have h := List.all_eq_true.1 (List.all_eq_true.1 (of_all found_all h0 h1) a (List.mem_range.2 ha)) b (List.mem_range.2 hb)
  rw [beq_eq_false_iff_ne.2 hab, Bool.false_or, Bool.and_eq_true, decide_eq_true_eq] at h
  exact h
theorem ok_of_E {n a b : Int} (h : roE n a b = 0) : okP n a b = true := by
  rw [roE] at h
  cases q : okP n a b
  · rw [q] at h; exact absurd h (by decide)
  · rfl
theorem box2_a (w : World) (t : TypeId) (x y : Value) : Blk (w.alloc (.cells #[x, y] t)) w.heap.size t #[x, y] := Blk.new _ _ _
theorem box2_s {w : World} {g : Nat} {t : TypeId} {x y : Value} (h : Blk w g t #[x, y]) (x' y' : Value) : Blk ((w.setCell ⟨g, 0, none⟩ x').setCell ⟨g, 1, none⟩ y') g t #[x', y'] := (h.set 0 x').set 1 y'
theorem set2_sl {w : World} {A : Option Addr} {n : Nat} {vs : List Value} (h : Sl w w.heap.size 2 A n vs) (t : TypeId) (x y x' y' : Value) : Sl (((w.alloc (.cells #[x, y] t)).setCell ⟨w.heap.size, 0, none⟩ x').setCell ⟨w.heap.size, 1, none⟩ y') (((w.alloc (.cells #[x, y] t)).setCell ⟨w.heap.size, 0, none⟩ x').setCell ⟨w.heap.size, 1, none⟩ y').heap.size 2 A n vs :=
  h.later (((Below.alloc (Below.refl _ _) (Nat.le_refl _) _).setCell (Nat.le_refl _) _).setCell (Nat.le_refl _) _)
set_option maxRecDepth 100000 in
set_option maxHeartbeats 8000000 in
theorem fnRoundsOf_walk (A : Option Addr) (n c : Nat) (cs : List Int) (w : World) (hs : Sl w w.heap.size 1 A n (cs.map (Value.int .u8))) (hm : n ≤ 9223372036854775807) (hb : ∀ z ∈ cs, 0 ≤ z ∧ z ≤ 255) :
    Calls Try.prog 4 #[.slice A n c] w fun e w' => e = .returned (.bool true) ∧ Below w.heap.size w w' := by
  have HS := Lib.hid hs
  have HB := Lib.hid hb
  clear hs hb
  go_enter Try.func4, Try.ntmps4
  go_wp2_with fail
  refine (f6big_any A n c _).mono ?_
  rintro e w_ ⟨q, rfl, hq, rfl⟩
  cases q
  case true =>
    go_wp2_with fail
    go_ret
    exact ⟨rfl, by (repeat' (first | (with_reducible exact Below.refl _ _) | (with_reducible assumption) | (with_reducible refine Below.alloc ?_ ?_ _) | (with_reducible refine Below.drew ?_) | (with_reducible refine belowDrewN ?_ _) | (with_reducible refine Below.setCell ?_ ?_ _) | (with_reducible refine Below.via (by with_reducible assumption) ?_ ?_) | (with_reducible refine Below.viaD (by with_reducible assumption) ?_ ?_) | (with_reducible exact Below.size (by with_reducible assumption)) | go_size | (with_reducible refine Nat.le_trans ?_ (Below.size (by with_reducible assumption))) | (with_reducible refine Nat.le_trans ?_ (sizeAlloc _ _)) | (with_reducible refine Nat.le_trans ?_ (sizeSet _ _ _)) | (with_reducible refine Nat.le_trans ?_ (sizeDrew _))))⟩
  case false =>
  have hn := hq rfl
  clear hq
  go_wp2_with fail
  refine (DrawRoundOf_any A n c cs _ HS.out HB.out (by omega)).mono ?_
  rintro e w1 ⟨N, a, b, rfl, h1⟩
  have B1 := Lib.hid h1
  have HS1 := Lib.hid (HS.out.later h1)
  clear h1
  obtain ⟨rc, hrc⟩ : ∃ v, roC N a b = v := ⟨_, rfl⟩
  obtain ⟨rb, hrb⟩ : ∃ v, roB N a b = v := ⟨_, rfl⟩
  obtain ⟨re, hre⟩ : ∃ v, roE N a b = v := ⟨_, rfl⟩
  have HRC := Lib.hid hrc
  have HRB := Lib.hid hrb
  have HRE := Lib.hid hre
  clear hrc hrb hre
  go_wp2_with fail
  refine (RoundOf_any N a b _).mono ?_
  rw [HRC.out, HRB.out, HRE.out]
  rintro e w2 ⟨rfl, h2⟩
  have HS2 := Lib.hid (HS1.out.later h2)
  have B2 := Lib.hid (Below.via h2 B1.out B1.out.size)
  clear h2
  go_wp2_with fail
  refine (sRoundOf_any N a b _).mono ?_
  rw [HRC.out, HRB.out, HRE.out]
  rintro e w3 ⟨rfl, h2⟩
  have HS3 := Lib.hid (HS2.out.later h2)
  have B3 := Lib.hid (Below.via h2 B2.out B2.out.size)
  clear h2
  go_wp2_with fail
  refine (DrawFirstsOf_any A n c cs _ HS3.out HB.out (by omega)).mono ?_
  rintro e w4 ⟨K, v, j, zs, rfl, k0, k1, hj, hown, h2⟩
  have B4 := Lib.hid (Below.via h2 B3.out B3.out.size)
  obtain ⟨A', g, cap, rfl, hg, hnc, hcm, ho⟩ := own_of_row hown
  have SL4 := Lib.hid ho.sl
  clear h2 hown ho
  obtain ⟨fc, hfc⟩ : ∃ v, fstCode K zs = v := ⟨_, rfl⟩
  obtain ⟨fl, hfl⟩ : ∃ v, fstLst K zs j = v := ⟨_, rfl⟩
  have HFC := Lib.hid hfc
  have HFL := Lib.hid hfl
  clear hfc hfl
  go_wp2_with fail
  refine (FirstsOf_any K A' j cap zs _ SL4.out (by omega)).mono ?_
  rintro e w5 ⟨A5, g5, q5, rfl, hg5, o5, hq5, h5⟩
  rw [HFC.out]
  rw [HFL.out] at o5
  have O5 := Lib.hid o5
  have SL5 := Lib.hid (SL4.out.later h5)
  have B5 := Lib.hid (Below.via h5 B4.out B4.out.size)
  clear o5 h5
  go_wp2_with fail
  refine (sFirstsOf_any K A' j cap zs _ SL5.out (by omega)).mono ?_
  rintro e w6 ⟨A6, g6, q6, rfl, hg6, o6, hq6, h6⟩
  rw [HFC.out]
  rw [HFL.out] at o6
  obtain rfl : q5 = q6 := by have e1 := O5.out.len; have e2 := o6.len; omega
  have S1 := Lib.hid (O5.out.later h6).sl
  have S2 := Lib.hid o6.sl
  have SL6 := Lib.hid (SL5.out.later h6)
  have B6 := Lib.hid (Below.via h6 B5.out B5.out.size)
  clear o6 h6 O5
  have X1 : Hid (∀ Q : Ending → World → Prop, (∀ w', Below w6.heap.size w6 w' → Q (.returned (.bool true)) w') → Calls Try.prog 22 #[.slice A5 q5 q5, .slice A6 q5 q5] w6 Q) := fun Q hQ => (f6ints_same A5 A6 q5 q5 q5 fl _ S1.out S2.out (by omega)).mono (by rintro e w' ⟨rfl, h⟩; exact hQ _ h)
  obtain ⟨vm, hvm⟩ : ∃ v, validM K zs = v := ⟨_, rfl⟩
  have HVM := Lib.hid hvm
  clear hvm
  have X2 : Hid (∀ w7, Below w6.heap.size w6 w7 → ∀ Q : Ending → World → Prop, (∀ w', Below w7.heap.size w7 w' → Q (.returned (.bool vm)) w') → Calls Try.prog 15 #[.int .i64 K, .slice A' j cap] w7 Q) := fun w7 h7 Q hQ => (ValidMeetings_any K A' j cap zs _ (SL6.out.later h7) (by omega)).mono (by rw [HVM.out]; rintro e w' ⟨rfl, h⟩; exact hQ _ h)
  have X3 : Hid (∀ w7 w8, Below w6.heap.size w6 w7 → Below w7.heap.size w7 w8 → ∀ Q : Ending → World → Prop, (∀ w', Below w8.heap.size w8 w' → Q (.returned (.bool vm)) w') → Calls Try.prog 23 #[.int .i64 K, .slice A' j cap] w8 Q) := fun w7 w8 h7 h8 Q hQ => (sValidMeetings_any K A' j cap zs _ ((SL6.out.later h7).later h8) (by omega)).mono (by rw [HVM.out]; rintro e w' ⟨rfl, h⟩; exact hQ _ h)
  by_cases hrz : re = 0
  case neg =>
    have hrb : (re != 0) = true := by rw [bne_iff_ne]; exact hrz
    clear hrz
    go_wp2_with (first | (go_at_call 22; (with_reducible refine X1.out _ ?_); intro w7 h7) | (go_at_call 15; (with_reducible refine X2.out _ h7 _ ?_); intro w8 h8) | (go_at_call 23; (with_reducible refine X3.out _ _ h7 h8 _ ?_); intro w9 h9))
    go_ret
    exact ⟨rfl, Below.via h9 (Below.via h8 (Below.via h7 B6.out B6.out.size) (Below.via h7 B6.out B6.out.size).size) (Below.via h8 (Below.via h7 B6.out B6.out.size) (Below.via h7 B6.out B6.out.size).size).size⟩
  case pos =>
    obtain ⟨k, i, l, rfl, rfl, rfl, hk2, hk12, hi, hl, hil⟩ := okP_of (ok_of_E (HRE.out.trans hrz))
    subst hrz
    obtain ⟨e1, e2, e3⟩ := ro_yes (ok_of_E HRE.out)
    obtain ⟨f1, f2⟩ := found_of hk2 hk12 hi hl hil
    rw [HRC.out] at e1
    rw [HRB.out] at e2
    obtain ⟨R, hR⟩ : ∃ R, rofN k (min i l) (max i l) = R := ⟨_, rfl⟩
    have hrm : roMt k i l = rb := by rw [e2, roMt, Bool.eq_iff_iff, beq_iff_eq, beq_iff_eq]; exact Int.ofNat_inj.symm
    rw [hrm, hR] at f2
    rw [hR] at f1 e1
    subst e1
    have HRR := Lib.hid (rr_inE hk2 hk12 f1)
    have hlen := rr_len hk2 hk12 f1
    clear e2 e3 hrm hR f1
    obtain ⟨H, hH⟩ : ∃ H, k / 2 = H := ⟨_, rfl⟩
    rw [hH] at hlen f2
    have hH6 : H ≤ 6 := by omega
    have HLN := Lib.hid hlen
    have HF := Lib.hid f2
    clear hlen f2 hH
    go_wp2_with (first | (go_at_call 22; (with_reducible refine X1.out _ ?_); intro w7 h7) | (go_at_call 15; (with_reducible refine X2.out _ h7 _ ?_); intro w8 h8) | (go_at_call 23; (with_reducible refine X3.out _ _ h7 h8 _ ?_); intro w9 h9))
    have B9 : Hid (Below w.heap.size w w9) := Below.via h9 (Below.via h8 (Below.via h7 B6.out B6.out.size) (Below.via h7 B6.out B6.out.size).size) (Below.via h8 (Below.via h7 B6.out B6.out.size) (Below.via h7 B6.out B6.out.size).size).size
    clear h7 h8 h9
    refine (RoundRobin_any (k : Nat) (R : Nat) (rrS k R k) 0 HRR.out _).mono ?_
    rintro e w10 ⟨A10, g10, q10, cap10, rfl, hg10, o10, h10⟩
    have hq10 : q10 = H := by have e1 := o10.len; have e2 := HLN.out; omega
    subst hq10
    have B10 := Lib.hid (Below.via h10 B9.out B9.out.size)
    have hz10 := B10.out.size
    have S10 := Lib.hid o10.sl
    clear o10 h10
    have K0 := Lib.hid (box2_a w10 34 (.int .i64 (l : Nat)) (.int .i64 (i : Nat)))
    have BA := Lib.hid (Below.alloc B10.out hz10 (.cells #[.int .i64 (l : Nat), .int .i64 (i : Nat)] 34))
    have SA := Lib.hid (S10.out.later (Below.alloc (Below.refl _ _) (Nat.le_refl _) (.cells #[.int .i64 (l : Nat), .int .i64 (i : Nat)] 34)))
    obtain ⟨L, hLL⟩ : ∃ L, rrS k R k = L := ⟨_, rfl⟩
    rw [hLL] at SA HF S10
    cases rb
    case false =>
      have HFF : Hid (foundR L ((l : Nat) : Int) ((i : Nat) : Int) q10 = true) := HF.out
      go_wp2_with fail
      have KB : Hid (Blk (w10.alloc (.cells #[.int .i64 (l : Nat), .int .i64 (i : Nat)] 34)) w10.heap.size 34 #[.int .i64 (l : Nat), .int .i64 (i : Nat)]) := K0.out
      have BW : Hid (Below w.heap.size w (w10.alloc (.cells #[.int .i64 (l : Nat), .int .i64 (i : Nat)] 34))) := BA.out
      have SW : Hid (Sl (w10.alloc (.cells #[.int .i64 (l : Nat), .int .i64 (i : Nat)] 34)) (w10.alloc (.cells #[.int .i64 (l : Nat), .int .i64 (i : Nat)] 34)).heap.size 2 A10 q10 (L.map (Value.int .i64))) := SA.out
      have hW : w.heap.size ≤ (w10.alloc (.cells #[.int .i64 (l : Nat), .int .i64 (i : Nat)] 34)).heap.size := BW.out.size
      generalize (w10.alloc (.cells #[.int .i64 (l : Nat), .int .i64 (i : Nat)] 34)) = wz at KB BW SW hW ⊢
      go_loopw [21, 22] (fun ff ii wr => ∃ d : Nat, d ≤ q10 ∧ ii = .int .i64 d ∧ ff = .bool (foundR L ((l : Nat) : Int) ((i : Nat) : Int) d) ∧ Below wz.heap.size wz wr) (fun _ ii _ => q10 - (intOf ii).toNat)
      case atStart => exact ⟨0, Nat.zero_le _, rfl, rfl, Below.refl _ _⟩
      case round =>
        obtain ⟨d, hd, rfl, rfl, hbl⟩ := hrel
        have HBL := Lib.hid hbl
        by_cases hdlt : d < q10
        · obtain ⟨b0, off, rfl, hb0, hl0, hc0⟩ := (SW.out.below hbl).cellAt hdlt
          have c0 := hc0 0 (by omega)
          have c1 := hc0 1 (by omega)
          rw [Nat.add_zero] at c0
          rw [← Nat.add_assoc] at c1
          have KR := KB.out.later hbl
          have k0 := KR.cell 0
          have k1 := KR.cell 1
          obtain ⟨u, hu⟩ : ∃ u, L.getD (d * 2) 0 = u := ⟨_, rfl⟩
          obtain ⟨z, hz⟩ : ∃ u, L.getD (d * 2 + 1) 0 = u := ⟨_, rfl⟩
          rw [hu] at c0
          rw [hz] at c1
          obtain ⟨f0, hf0⟩ : ∃ f, foundR L ((l : Nat) : Int) ((i : Nat) : Int) d = f := ⟨_, rfl⟩
          obtain ⟨p1, hp1⟩ : ∃ p, (u == ((l : Nat) : Int)) = p := ⟨_, rfl⟩
          obtain ⟨p2, hp2⟩ : ∃ p, (z == ((i : Nat) : Int)) = p := ⟨_, rfl⟩
          have HN : Hid (foundR L ((l : Nat) : Int) ((i : Nat) : Int) (d + 1) = (f0 || (p1 && p2))) := by unfold Hid; rw [foundR, hu, hz, hf0, hp1, hp2]
          rw [hf0]
          clear hu hz hf0 hc0 hl0 KR hbl
          cases f0 <;> cases p1 <;> cases p2
          all_goals
            go_wp2_with fail
            go_region
            go_wp2_with fail
            go_roundw
            case rel => exact ⟨d + 1, by omega, by go_num, by rw [HN.out]; rfl, belowDrewN HBL.out _⟩
            case measure => first | (simp [intOf]; done) | (simp [intOf]; omega)
        · obtain rfl : q10 = d := by omega
          rw [HFF.out]
          go_wp2_with fail
          go_ret
          exact ⟨rfl, Below.via HBL.out BW.out hW⟩
    case true =>
      have HFF : Hid (foundR L ((i : Nat) : Int) ((l : Nat) : Int) q10 = true) := HF.out
      go_wp2_with fail
      have KB : Hid (Blk (w10.alloc (.cells #[.int .i64 (i : Nat), .int .i64 (l : Nat)] 34)) w10.heap.size 34 #[.int .i64 (i : Nat), .int .i64 (l : Nat)]) := box2_a w10 _ _ _
      have BW : Hid (Below w.heap.size w (w10.alloc (.cells #[.int .i64 (i : Nat), .int .i64 (l : Nat)] 34))) := Below.alloc B10.out hz10 _
      have SW : Hid (Sl (w10.alloc (.cells #[.int .i64 (i : Nat), .int .i64 (l : Nat)] 34)) (w10.alloc (.cells #[.int .i64 (i : Nat), .int .i64 (l : Nat)] 34)).heap.size 2 A10 q10 (L.map (Value.int .i64))) := S10.out.later (Below.alloc (Below.refl _ _) (Nat.le_refl _) _)
      have hW : w.heap.size ≤ (w10.alloc (.cells #[.int .i64 (i : Nat), .int .i64 (l : Nat)] 34)).heap.size := BW.out.size
      generalize (w10.alloc (.cells #[.int .i64 (i : Nat), .int .i64 (l : Nat)] 34)) = wz at KB BW SW hW ⊢
      go_loopw [21, 22] (fun ff ii wr => ∃ d : Nat, d ≤ q10 ∧ ii = .int .i64 d ∧ ff = .bool (foundR L ((i : Nat) : Int) ((l : Nat) : Int) d) ∧ Below wz.heap.size wz wr) (fun _ ii _ => q10 - (intOf ii).toNat)
      case atStart => exact ⟨0, Nat.zero_le _, rfl, rfl, Below.refl _ _⟩
      case round =>
        obtain ⟨d, hd, rfl, rfl, hbl⟩ := hrel
        have HBL := Lib.hid hbl
        by_cases hdlt : d < q10
        · obtain ⟨b0, off, rfl, hb0, hl0, hc0⟩ := (SW.out.below hbl).cellAt hdlt
          have c0 := hc0 0 (by omega)
          have c1 := hc0 1 (by omega)
          rw [Nat.add_zero] at c0
          rw [← Nat.add_assoc] at c1
          have KR := KB.out.later hbl
          have k0 := KR.cell 0
          have k1 := KR.cell 1
          obtain ⟨u, hu⟩ : ∃ u, L.getD (d * 2) 0 = u := ⟨_, rfl⟩
          obtain ⟨z, hz⟩ : ∃ u, L.getD (d * 2 + 1) 0 = u := ⟨_, rfl⟩
          rw [hu] at c0
          rw [hz] at c1
          obtain ⟨f0, hf0⟩ : ∃ f, foundR L ((i : Nat) : Int) ((l : Nat) : Int) d = f := ⟨_, rfl⟩
          obtain ⟨p1, hp1⟩ : ∃ p, (u == ((i : Nat) : Int)) = p := ⟨_, rfl⟩
          obtain ⟨p2, hp2⟩ : ∃ p, (z == ((l : Nat) : Int)) = p := ⟨_, rfl⟩
          have HN : Hid (foundR L ((i : Nat) : Int) ((l : Nat) : Int) (d + 1) = (f0 || (p1 && p2))) := by unfold Hid; rw [foundR, hu, hz, hf0, hp1, hp2]
          rw [hf0]
          clear hu hz hf0 hc0 hl0 KR hbl
          cases f0 <;> cases p1 <;> cases p2
          all_goals
            go_wp2_with fail
            go_region
            go_wp2_with fail
            go_roundw
            case rel => exact ⟨d + 1, by omega, by go_num, by rw [HN.out]; rfl, belowDrewN HBL.out _⟩
            case measure => first | (simp [intOf]; done) | (simp [intOf]; omega)
        · obtain rfl : q10 = d := by omega
          rw [HFF.out]
          go_wp2_with fail
          go_ret
          exact ⟨rfl, Below.via HBL.out BW.out hW⟩
end Go.Proofs.Ytpdmacklipcmkaa
