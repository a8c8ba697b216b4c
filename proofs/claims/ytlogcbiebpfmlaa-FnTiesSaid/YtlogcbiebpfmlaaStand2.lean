/- Standings: the rows of all players, by the program. Conditions: valid matches. -/
import Derived.Test.YtlogcbiebpfmlaaStand1
namespace Go.Proofs.Ytlogcbiebpfmlaa
set_option linter.unusedSimpArgs false
set_option linter.unusedVariables false
open Go.RowKit

def F1 (vs : List Value) : Nat → Nat → Nat → Int
  | 0 => fun a b => if b = 0 then (a : Int) else 0
  | k + 1 => addF (addF (F1 vs k) (intAt vs (k * 4)).toNat (intAt vs (k * 4 + 2))) (intAt vs (k * 4 + 1)).toNat (2 - intAt vs (k * 4 + 2))
def F2 (vs : List Value) (c : Nat) : Nat → Nat → Nat → Int
  | 0 => F1 vs c
  | k + 1 => if boolAt vs (k * 4 + 3) then F2 vs c k else playF (playF (F2 vs c k) (intAt vs (k * 4)).toNat (intAt vs (k * 4 + 1)).toNat (intAt vs (k * 4 + 2))) (intAt vs (k * 4 + 1)).toNat (intAt vs (k * 4)).toNat (2 - intAt vs (k * 4 + 2))
def Bd (F : Nat → Nat → Int) (m1 m2 m3 m4 m5 : Int) : Prop := ∀ a, (0 ≤ F a 1 ∧ F a 1 ≤ m1) ∧ (0 ≤ F a 2 ∧ F a 2 ≤ m2) ∧ (0 ≤ F a 3 ∧ F a 3 ≤ m3) ∧ (0 ≤ F a 4 ∧ F a 4 ≤ m4) ∧ (0 ≤ F a 5 ∧ F a 5 ≤ m5)
theorem Bd.add {F : Nat → Nat → Int} {m1 m2 m3 m4 m5 : Int} (h : Bd F m1 m2 m3 m4 m5) (d : Nat) {s : Int} (h0 : 0 ≤ s) (h2 : s ≤ 2) : Bd (addF F d s) (m1 + 2) (m2 + 1) m3 m4 m5 := by
  intro a
  have ha := h a
  have hd := h d
  unfold addF
  split
  all_goals
    simp only [upF]
    refine ⟨?_, ?_, ?_, ?_, ?_⟩
    all_goals (repeat' split)
    all_goals omega
theorem Bd.play {F : Nat → Nat → Int} {m1 m2 m3 m4 m5 : Int} (h : Bd F m1 m2 m3 m4 m5) (d o : Nat) {s : Int} (h0 : 0 ≤ s) (h2 : s ≤ 2) : Bd (playF F d o s) m1 m2 (m3 + 1) (m4 + m1) (m5 + 2 * m1) := by
  intro a
  have ha := h a
  have hd := h d
  have ho := (h o).1
  have p0 : 0 ≤ F o 1 * s := Int.mul_nonneg ho.1 h0
  have p1 : F o 1 * s ≤ 2 * m1 := by
    have := Int.mul_le_mul ho.2 h2 h0 (by omega : (0 : Int) ≤ m1)
    omega
  unfold playF
  revert p0 p1
  generalize F o 1 * s = y
  intro p0 p1
  simp only [upF]
  refine ⟨?_, ?_, ?_, ?_, ?_⟩
  all_goals (repeat' split)
  all_goals omega
theorem Bd.mono {F : Nat → Nat → Int} {m1 m2 m3 m4 m5 k1 k2 k3 k4 k5 : Int} (h : Bd F m1 m2 m3 m4 m5) (h1 : m1 ≤ k1) (h2 : m2 ≤ k2) (h3 : m3 ≤ k3) (h4 : m4 ≤ k4) (h5 : m5 ≤ k5) : Bd F k1 k2 k3 k4 k5 := by
  intro a
  have := h a
  omega
def okMs (vs : List Value) (c m : Nat) : Prop := ∀ j, j < c → 0 ≤ intAt vs (j * 4) ∧ intAt vs (j * 4) < m ∧ 0 ≤ intAt vs (j * 4 + 1) ∧ intAt vs (j * 4 + 1) < m ∧ intAt vs (j * 4) ≠ intAt vs (j * 4 + 1) ∧ 0 ≤ intAt vs (j * 4 + 2) ∧ intAt vs (j * 4 + 2) ≤ 2
theorem F1_bd {vs : List Value} {c m : Nat} (h : okMs vs c m) : ∀ k, k ≤ c → Bd (F1 vs k) (4 * (k : Int)) (2 * (k : Int)) 0 0 0 := by
  intro k
  induction k with
  | zero => intro _ a; simp [F1]
  | succ k ih =>
    intro hk
    have hz := h k (by omega)
    rw [F1]
    exact (((ih (by omega)).add _ hz.2.2.2.2.2.1 hz.2.2.2.2.2.2).add _ (by omega) (by omega)).mono (by omega) (by omega) (by omega) (by omega) (by omega)
theorem F2_bd {vs : List Value} {c m : Nat} (h : okMs vs c m) (hc : c ≤ 150) : ∀ k, k ≤ c → Bd (F2 vs c k) 600 300 (2 * (k : Int)) (1200 * (k : Int)) (2400 * (k : Int)) := by
  intro k
  induction k with
  | zero => intro _; exact (F1_bd h c (Nat.le_refl _)).mono (by omega) (by omega) (by omega) (by omega) (by omega)
  | succ k ih =>
    intro hk
    have hz := h k (by omega)
    rw [F2]
    split
    · exact (ih (by omega)).mono (by omega) (by omega) (by omega) (by omega) (by omega)
    · exact (((ih (by omega)).play _ _ hz.2.2.2.2.2.1 hz.2.2.2.2.2.2).play _ _ (by omega) (by omega)).mono (by omega) (by omega) (by omega) (by omega) (by omega)
theorem flatF_congr {n : Nat} {F G : Nat → Nat → Int} (h : ∀ a b, a < n → F a b = G a b) : flatF n F = flatF n G := by
  unfold flatF
  apply List.map_congr_left
  intro j hj
  rw [List.mem_range] at hj
  rw [h _ _ (by omega)]
theorem flatF_none (n : Nat) : (List.replicate (n * 6) (Value.int .i64 0)) = flatF n (fun _ _ => 0) := by
  unfold flatF
  rw [List.map_const', List.length_range]
/-- The rows' players are laid up to a place. -/
def F0 (k : Nat) : Nat → Nat → Int := fun a b => if b = 0 ∧ a < k then (a : Int) else 0
theorem F0_step (k : Nat) : upF (F0 k) k 0 (k : Int) = F0 (k + 1) := by
  funext a b
  unfold upF F0
  repeat' split
  all_goals omega
theorem F0_all (n : Nat) (vs : List Value) : flatF n (F0 n) = flatF n (F1 vs 0) := flatF_congr fun a b ha => by
  simp only [F0, F1]
  repeat' split
  all_goals omega
theorem F0_zero (n : Nat) : (Array.replicate (n * 6) (Value.int .i64 0)) = (flatF n (F0 0)).toArray := by
  have e : F0 0 = fun _ _ => 0 := by funext a b; simp [F0]
  rw [e, ← flatF_none, List.toArray_replicate]
theorem flatF_at0 {n d : Nat} (F : Nat → Nat → Int) (hd : d < n) : (flatF n F).toArray[d * 6]? = some (.int .i64 (F d 0)) := flatF_at (c := 0) F hd (by omega)
theorem flatF_set0 {n d : Nat} (F : Nat → Nat → Int) (hd : d < n) (v : Int) : (flatF n F).toArray.setIfInBounds (d * 6) (.int .i64 v) = (flatF n (upF F d 0 v)).toArray := flatF_set (c := 0) F hd (by omega) v
theorem Blk.apart {w w' : World} {g g' : Nat} {t : TypeId} {cs : Array Value} (h : Blk w g t cs) (hg : w.grownBy w' (some g')) (hne : g ≠ g') : Blk w' g t cs := (hg.block g h.lt (by simpa using hne)).trans h
theorem info_Row' : (Try.prog.info? 54).map (fun i => (i.zero, i.size, i.bytes)) = some (some (.agg #[Value.int .i64 0, .int .i64 0, .int .i64 0, .int .i64 0, .int .i64 0, .int .i64 0]), 6, 48) := by kernel_rfl
set_option maxRecDepth 100000 in
set_option maxHeartbeats 2000000 in
theorem rowsOf_any (n : Nat) (A : Option Addr) (c cp : Nat) (vs : List Value) (w : World) (hs : Sl w w.heap.size 4 A c vs) (ht : TypMatch vs c) (h2 : 2 ≤ n) (hn : n ≤ 12) (hc : c ≤ 150) (hz : okMs vs c n) :
    Calls Try.prog 28 #[.int .i64 n, .slice A c cp] w fun e w' => e = .returned (.slice (some ⟨w.heap.size, 0, none⟩) n n) ∧ Blk w' w.heap.size 54 (flatF n (F2 vs c c)).toArray ∧ Below w.heap.size w w' := by
  obtain ⟨i0, hi, hz0, hz1, hz2⟩ := info_parts info_Row'
  have hmk := fun W => run_makeN (P := Try.prog) 51 54 i0 (.agg #[Value.int .i64 0, .int .i64 0, .int .i64 0, .int .i64 0, .int .i64 0, .int .i64 0]) Try.underlying51 hi hz0 .i64 .i64 n n (Nat.le_refl _) (by rw [hz2]; omega) (by omega) W
  rw [hz1] at hmk
  have hmm : (Value.agg #[Value.int .i64 0, .int .i64 0, .int .i64 0, .int .i64 0, .int .i64 0, .int .i64 0]).cells = (List.replicate 6 (Value.int .i64 0)).toArray := rfl
  rw [hmm, made_many _ _ (by omega)] at hmk
  clear hmm hi hz0 hz1 hz2
  have HZ := Lib.hid hz
  have HS := Lib.hid hs
  have HT := Lib.hid ht
  have HB1 := Lib.hid (F1_bd hz)
  have HB2 := Lib.hid (F2_bd hz hc)
  clear hz hs ht
  go_enter Try.func28, Try.ntmps28
  go_wp2_with fail
  go_loopw [17] (fun i wr => ∃ k : Nat, k ≤ n ∧ i = .int .i64 k ∧ Blk wr w.heap.size 54 (flatF n (F0 k)).toArray ∧ wr.cell? ⟨w.heap.size + 1, 0, none⟩ = some (.slice (some ⟨w.heap.size, 0, none⟩) n n) ∧ Below w.heap.size w wr) (fun i _ => n - (intOf i).toNat)
  case atStart =>
    refine ⟨0, Nat.zero_le _, rfl, ?_, ?_, by (repeat' (first | (with_reducible exact Below.refl _ _) | (with_reducible assumption) | (with_reducible refine Below.alloc ?_ ?_ _) | (with_reducible refine Below.drew ?_) | (with_reducible refine belowDrewN ?_ _) | (with_reducible refine Below.setCell ?_ ?_ _) | (with_reducible refine Below.via (by with_reducible assumption) ?_ ?_) | (with_reducible refine Below.viaD (by with_reducible assumption) ?_ ?_) | (with_reducible exact Below.size (by with_reducible assumption)) | go_size | (with_reducible refine Nat.le_trans ?_ (Below.size (by with_reducible assumption))) | (with_reducible refine Nat.le_trans ?_ (sizeAlloc _ _)) | (with_reducible refine Nat.le_trans ?_ (sizeSet _ _ _)) | (with_reducible refine Nat.le_trans ?_ (sizeDrew _))))⟩
    · rw [← F0_zero]
      exact (Blk.new _ _ _).later (Below.alloc (Below.refl _ _) (Nat.le_refl _) _)
    · have K := Blk.new (w.alloc (.cells (Array.replicate (n * 6) (Value.int .i64 0)) 54)) 51 #[.slice (some ⟨w.heap.size, 0, none⟩) n n]
      rw [World.size_alloc] at K
      exact K.cell 0
  case round =>
    obtain ⟨k, hk, rfl, hblk, hv, hbl⟩ := hrel
    have hbs := cell_lt hv
    have hgl := hblk.lt
    by_cases hlt : k < n
    · have c0 := (hblk.cell (k * 6)).trans (flatF_at0 (F0 k) hlt)
      have f0 := hblk.free (k * 6)
      have HB := Lib.hid hblk
      clear hblk
      go_wp2_with fail
      go_roundw
      case rel =>
        refine ⟨k + 1, by omega, by go_num, ?_, ?_, by (repeat' (first | (with_reducible exact Below.refl _ _) | (with_reducible assumption) | (with_reducible refine Below.alloc ?_ ?_ _) | (with_reducible refine Below.drew ?_) | (with_reducible refine belowDrewN ?_ _) | (with_reducible refine Below.setCell ?_ ?_ _) | (with_reducible refine Below.via (by with_reducible assumption) ?_ ?_) | (with_reducible refine Below.viaD (by with_reducible assumption) ?_ ?_) | (with_reducible exact Below.size (by with_reducible assumption)) | go_size | (with_reducible refine Nat.le_trans ?_ (Below.size (by with_reducible assumption))) | (with_reducible refine Nat.le_trans ?_ (sizeAlloc _ _)) | (with_reducible refine Nat.le_trans ?_ (sizeSet _ _ _)) | (with_reducible refine Nat.le_trans ?_ (sizeDrew _))))⟩
        · rw [← F0_step, ← flatF_set0 _ hlt]
          exact Blk.set HB.out (k * 6) _
        · exact (World.cell?_setCell_other _ _ _ _ (fun e => by injection e with e1; omega)).trans hv
      case measure => first | (simp [intOf]; done) | (simp [intOf]; omega)
    · obtain rfl : k = n := by omega
      rw [F0_all k vs] at hblk
      have HB := Lib.hid hblk
      clear hblk
      go_wp2_with fail
      go_loopw [29] (fun i wr => ∃ j : Nat, j ≤ c ∧ i = .int .i64 j ∧ Blk wr w.heap.size 54 (flatF k (F1 vs j)).toArray ∧ wr.cell? ⟨w.heap.size + 1, 0, none⟩ = some (.slice (some ⟨w.heap.size, 0, none⟩) k k) ∧ Below w.heap.size w wr) (fun i _ => c - (intOf i).toNat)
      case atStart => exact ⟨0, Nat.zero_le _, rfl, HB.out, hv, hbl⟩
      case round =>
        obtain ⟨j, hj, rfl, hblk, hv, hbl⟩ := hrel
        have hbs := cell_lt hv
        have HBK := Lib.hid hblk
        have HV := Lib.hid hv
        have HBL := Lib.hid hbl
        clear hblk hv hbl
        by_cases hlt : j < c
        · obtain ⟨bk, off, a0, a1, a2, a3, rfl, hb, hc0, hc1, hc2, hc3, HM⟩ := (HS.out.below HBL.out).matchAt HT.out hlt
          have hzz := HZ.out j hlt
          rw [HM.out.1, HM.out.2.1, HM.out.2.2.1] at hzz
          obtain ⟨z0, z1, z2, z3, z4, z5, z6⟩ := hzz
          obtain ⟨x, rfl⟩ := Int.eq_ofNat_of_zero_le z0
          obtain ⟨y, rfl⟩ := Int.eq_ofNat_of_zero_le z2
          have hx : x < k := by omega
          have hy : y < k := by omega
          have hbw : bk < wr.heap.size := by omega
          have HX : Hid (F1 vs (j + 1) = addF (addF (F1 vs j) x a2) y (2 - a2)) := by unfold Hid; rw [F1, HM.out.1, HM.out.2.1, HM.out.2.2.1, Int.toNat_natCast, Int.toNat_natCast]
          have b1 := HB1.out j hj
          have b2 := b1.add x z5 z6
          have HBB := Lib.hid (And.intro (b1 x) (b2 y))
          have hj4 : 4 * (j : Int) ≤ 600 := by omega
          clear b1 b2
          have hba : Below wr.heap.size wr (wr.alloc (.cells #[.int .i64 x, .int .i64 y, .int .i64 a2, .bool a3] 38)) := Below.alloc (Below.refl _ _) (Nat.le_refl _) _
          have HBA := Lib.hid hba
          clear hba
          go_wp2_with fail
          with_reducible refine Calls.mono (add_any k x w.heap.size (w.heap.size + 1) (F1 vs j) a2 _ ?_ ?_ (by omega) hx hn z5 z6 ?_ ?_) ?_
          · exact (HBA.out.cell (p := ⟨_, _, none⟩) hbs).trans HV.out
          · exact HBK.out.later HBA.out
          · have := HBB.out.1.1; omega
          · have := HBB.out.1.2.1; omega
          rintro e w1 ⟨rfl, hb1, hg1⟩
          have K1 := (Blk.new wr 38 #[.int .i64 x, .int .i64 y, .int .i64 a2, .bool a3]).apart hg1 (by omega)
          have m0 := K1.cell 0
          have m1 := K1.cell 1
          have m2 := K1.cell 2
          have m3 := K1.cell 3
          simp only [List.getElem?_toArray, List.getElem?_cons_zero, List.getElem?_cons_succ] at m0 m1 m2 m3
          have hv1 := hg1.cell ((HBA.out.cell (p := ⟨_, _, none⟩) hbs).trans HV.out) (by simp)
          have HB1' := Lib.hid hb1
          have HG1 := Lib.hid hg1
          have HV1 := Lib.hid hv1
          clear K1 hb1 hg1 hv1
          go_wp2_with fail
          with_reducible refine Calls.mono (add_any k y w.heap.size (w.heap.size + 1) (addF (F1 vs j) x a2) (2 - a2) _ HV1.out HB1'.out (by omega) hy hn (by omega) (by omega) ?_ ?_) ?_
          · have := HBB.out.2.1; omega
          · have := HBB.out.2.2.1; omega
          rintro e w2 ⟨rfl, hb2, hg2⟩
          have hv2 := hg2.cell HV1.out (by simp)
          have D1 : Below w.heap.size w w1 := grown_below (Below.via HBA.out HBL.out HBL.out.size) HG1.out (Nat.le_refl _) (Nat.le_trans HBL.out.size HBA.out.size)
          have D2 : Below w.heap.size w w2 := grown_below D1 hg2 (Nat.le_refl _) D1.size
          clear m0 m1 m2 m3 D1 hg2
          have HB2' := Lib.hid hb2
          have HV2 := Lib.hid hv2
          have HD2 := Lib.hid D2
          clear hb2 hv2 D2
          go_wp2_with fail
          go_roundw
          case rel => exact ⟨j + 1, by omega, by go_num, by rw [HX.out]; exact HB2'.out, HV2.out, HD2.out⟩
          case measure => first | (simp [intOf]; done) | (simp [intOf]; omega)
        · obtain rfl : j = c := by omega
          go_wp2_with fail
          go_loopw [50] (fun i wr => ∃ q : Nat, q ≤ j ∧ i = .int .i64 q ∧ Blk wr w.heap.size 54 (flatF k (F2 vs j q)).toArray ∧ wr.cell? ⟨w.heap.size + 1, 0, none⟩ = some (.slice (some ⟨w.heap.size, 0, none⟩) k k) ∧ Below w.heap.size w wr) (fun i _ => j - (intOf i).toNat)
          case atStart => exact ⟨0, Nat.zero_le _, rfl, HBK.out, HV.out, HBL.out⟩
          case round =>
            clear hbs
            obtain ⟨q, hq, rfl, hblk, hv, hbl⟩ := hrel
            have hbs := cell_lt hv
            have hgl := hblk.lt
            have HBK' := Lib.hid hblk
            have HVQ := Lib.hid hv
            have HBLQ := Lib.hid hbl
            clear hblk hv hbl
            by_cases hlt : q < j
            · obtain ⟨bk, off, a0, a1, a2, a3, rfl, hb, hc0, hc1, hc2, hc3, HM⟩ := (HS.out.below HBLQ.out).matchAt HT.out hlt
              have hzz := HZ.out q hlt
              rw [HM.out.1, HM.out.2.1, HM.out.2.2.1] at hzz
              obtain ⟨z0, z1, z2, z3, z4, z5, z6⟩ := hzz
              obtain ⟨x, rfl⟩ := Int.eq_ofNat_of_zero_le z0
              obtain ⟨y, rfl⟩ := Int.eq_ofNat_of_zero_le z2
              have hx : x < k := by omega
              have hy : y < k := by omega
              have hbw : bk < wr.heap.size := by omega
              cases a3
              case true =>
                have HX : Hid (F2 vs j (q + 1) = F2 vs j q) := by unfold Hid; rw [F2, HM.out.2.2.2, if_pos rfl]
                have hba : Below wr.heap.size wr (wr.alloc (.cells #[.int .i64 x, .int .i64 y, .int .i64 a2, .bool true] 38)) := Below.alloc (Below.refl _ _) (Nat.le_refl _) _
                have HBA := Lib.hid hba
                clear hba
                go_wp2_with fail
                go_roundw
                case rel => exact ⟨q + 1, by omega, by go_num, by rw [HX.out]; exact HBK'.out.later HBA.out, (HBA.out.cell (p := ⟨_, _, none⟩) hbs).trans HVQ.out, Below.via HBA.out HBLQ.out HBLQ.out.size⟩
                case measure => first | (simp [intOf]; done) | (simp [intOf]; omega)
              case false =>
                have HX : Hid (F2 vs j (q + 1) = playF (playF (F2 vs j q) x y a2) y x (2 - a2)) := by unfold Hid; rw [F2, HM.out.2.2.2, HM.out.1, HM.out.2.1, HM.out.2.2.1, Int.toNat_natCast, Int.toNat_natCast, if_neg (by simp)]
                have b1 := HB2.out q hq
                have b2 := b1.play x y z5 z6
                have HBB := Lib.hid (And.intro (And.intro (b1 x) (b1 y)) (And.intro (b2 x) (b2 y)))
                clear b1 b2
                have hba : Below wr.heap.size wr (wr.alloc (.cells #[.int .i64 x, .int .i64 y, .int .i64 a2, .bool false] 38)) := Below.alloc (Below.refl _ _) (Nat.le_refl _) _
                have HBA := Lib.hid hba
                clear hba
                go_wp2_with fail
                with_reducible refine Calls.mono (play_any k x y w.heap.size (w.heap.size + 1) (F2 vs j q) a2 _ ?_ ?_ (by omega) hx hy hn z5 z6 ?_ ?_ ?_ ?_) ?_
                · exact (HBA.out.cell (p := ⟨_, _, none⟩) hbs).trans HVQ.out
                · exact HBK'.out.later HBA.out
                · have := HBB.out.1.2.1; omega
                · have := HBB.out.1.1.2.2.1; omega
                · have := HBB.out.1.1.2.2.2.1; omega
                · have := HBB.out.1.1.2.2.2.2; omega
                rintro e w1 ⟨rfl, hb1, hg1⟩
                have K1 := (Blk.new wr 38 #[.int .i64 x, .int .i64 y, .int .i64 a2, .bool false]).apart hg1 (by omega)
                have m0 := K1.cell 0
                have m1 := K1.cell 1
                have m2 := K1.cell 2
                have m3 := K1.cell 3
                simp only [List.getElem?_toArray, List.getElem?_cons_zero, List.getElem?_cons_succ] at m0 m1 m2 m3
                have hv1 := hg1.cell ((HBA.out.cell (p := ⟨_, _, none⟩) hbs).trans HVQ.out) (by simp)
                have HB1' := Lib.hid hb1
                have HG1 := Lib.hid hg1
                have HV1 := Lib.hid hv1
                clear K1 hb1 hg1 hv1
                go_wp2_with fail
                with_reducible refine Calls.mono (play_any k y x w.heap.size (w.heap.size + 1) (playF (F2 vs j q) x y a2) (2 - a2) _ HV1.out HB1'.out (by omega) hy hx hn (by omega) (by omega) ?_ ?_ ?_ ?_) ?_
                · have := HBB.out.2.1.1; omega
                · have := HBB.out.2.2.2.2.1; omega
                · have := HBB.out.2.2.2.2.2.1; omega
                · have := HBB.out.2.2.2.2.2.2; omega
                rintro e w2 ⟨rfl, hb2, hg2⟩
                have hv2 := hg2.cell HV1.out (by simp)
                have D1 : Below w.heap.size w w1 := grown_below (Below.via HBA.out HBLQ.out HBLQ.out.size) HG1.out (Nat.le_refl _) (Nat.le_trans HBLQ.out.size HBA.out.size)
                have D2 : Below w.heap.size w w2 := grown_below D1 hg2 (Nat.le_refl _) D1.size
                clear m0 m1 m2 m3 D1 hg2
                have HB2' := Lib.hid hb2
                have HV2 := Lib.hid hv2
                have HD2 := Lib.hid D2
                clear hb2 hv2 D2
                go_wp2_with fail
                go_roundw
                case rel => exact ⟨q + 1, by omega, by go_num, by rw [HX.out]; exact HB2'.out, HV2.out, HD2.out⟩
                case measure => first | (simp [intOf]; done) | (simp [intOf]; omega)
            · obtain rfl : q = j := by omega
              have hv := HVQ.out
              go_wp2_with fail
              go_ret
              exact ⟨rfl, HBK'.out, HBLQ.out⟩
end Go.Proofs.Ytlogcbiebpfmlaa
