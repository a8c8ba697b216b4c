/- Standings: ranks, by both functions. Conditions: bounds. -/
import Derived.Test.YtlogcbiebpfmlaaStand6
namespace Go.Proofs.Ytlogcbiebpfmlaa
set_option linter.unusedSimpArgs false
set_option linter.unusedVariables false
open Go.RowKit

/-- How many of the first rows are better than a row. -/
def btF (F : Nat → Nat → Int) (j a : Nat) : Bool := btV (F j 1) (F j 4) (F j 5) (F j 2) (F a 1) (F a 4) (F a 5) (F a 2)
def cntB (F : Nat → Nat → Int) (a : Nat) : Nat → Int
  | 0 => 0
  | j + 1 => cntB F a j + (if btF F j a then 1 else 0)
theorem cntB_bd (F : Nat → Nat → Int) (a : Nat) : ∀ j, 0 ≤ cntB F a j ∧ cntB F a j ≤ j := by
  intro j
  induction j with
  | zero => simp [cntB]
  | succ j ih =>
    rw [cntB]
    split <;> omega
def rkL (F : Nat → Nat → Int) (n k : Nat) : List Value := (List.range k).map fun a => .int .i64 (1 + cntB F a n)
theorem rkL_snoc (F : Nat → Nat → Int) (n k : Nat) : rkL F n (k + 1) = rkL F n k ++ [.int .i64 (1 + cntB F k n)] := by
  simp [rkL, List.range_succ]
def RkPost (n : Nat) (F : Nat → Nat → Int) (w : World) (e : Ending) (w' : World) : Prop :=
  ∃ (A : Option Addr) (g cap : Nat), e = .returned (.slice A n cap) ∧ w.heap.size ≤ g ∧ OwnV w' g 2 1 A n (rkL F n n) ∧ Below w.heap.size w w'
theorem info_int64k : (Try.prog.info? 2).map (fun i => (i.zero, i.size, i.bytes)) = some (some (.int .i64 0), 1, 8) := by kernel_rfl
theorem row_made1 {W : World} {g base : Nat} {e : TypeId} (hg : g = W.heap.size) (hb : base ≤ g) : (W.alloc (.cells #[] e)).ownsRow base e 1 (.slice (some ⟨g, 0, none⟩) 0 0) 0 [] := by
  subst hg
  exact World.ownsRow_made _ _ 0 hb (Nat.zero_le _) rfl
set_option maxRecDepth 100000 in
set_option maxHeartbeats 2000000 in
theorem ranks_any (n : Nat) (A : Option Addr) (c cp : Nat) (vs : List Value) (w : World) (hs : Sl w w.heap.size 4 A c vs) (ht : TypMatch vs c) (h2 : 2 ≤ n) (hn : n ≤ 12) (hc : c ≤ 150) (hz : okMs vs c n) :
    Calls Try.prog 17 #[.int .i64 n, .slice A c cp] w (RkPost n (F2 vs c c) w) := by
  have HR := Lib.hid (rowsOf_any n A c cp vs w hs ht h2 hn hc hz)
  obtain ⟨F, hF⟩ : ∃ F, F2 vs c c = F := ⟨_, rfl⟩
  rw [hF] at HR ⊢
  clear hF hs ht hz
  obtain ⟨i0, ti, tz0, tz1, tz2⟩ := info_parts info_int64k
  go_enter Try.func17, Try.ntmps17
  go_wp2_with fail
  with_reducible refine Calls.mono HR.out ?_
  rintro e w1 ⟨rfl, hk1, hb1⟩
  have HK := Lib.hid hk1
  have HB := Lib.hid hb1
  have hlt := hk1.lt
  clear hk1 hb1
  go_wp2_with fail
  go_loopw [6, 18] (fun v i wr => ∃ k : Nat, k ≤ n ∧ i = .int .i64 k ∧ wr.ownsRow w1.heap.size 2 1 v k (rkL F n k) ∧ Below w1.heap.size w1 wr) (fun _ i _ => n - (intOf i).toNat)
  case atStart => exact ⟨0, Nat.zero_le _, rfl, row_made1 rfl (Nat.le_refl _), by (repeat' (first | (with_reducible exact Below.refl _ _) | (with_reducible assumption) | (with_reducible refine Below.alloc ?_ ?_ _) | (with_reducible refine Below.drew ?_) | (with_reducible refine belowDrewN ?_ _) | (with_reducible refine Below.setCell ?_ ?_ _) | (with_reducible refine Below.via (by with_reducible assumption) ?_ ?_) | (with_reducible refine Below.viaD (by with_reducible assumption) ?_ ?_) | (with_reducible exact Below.size (by with_reducible assumption)) | go_size | (with_reducible refine Nat.le_trans ?_ (Below.size (by with_reducible assumption))) | (with_reducible refine Nat.le_trans ?_ (sizeAlloc _ _)) | (with_reducible refine Nat.le_trans ?_ (sizeSet _ _ _)) | (with_reducible refine Nat.le_trans ?_ (sizeDrew _))))⟩
  case round =>
    rename World => wo
    obtain ⟨k, hk, rfl, hown, hbl⟩ := hrel
    have HO := Lib.hid hown
    have HBL := Lib.hid hbl
    have hbs := hbl.size
    clear hown hbl
    by_cases hlk : k < n
    · have hkb := HK.out.later HBL.out
      have c0 := (hkb.cell (k * 6)).trans (flatF_at0 F hlk)
      have c1 := (hkb.cell (k * 6 + 1)).trans (flatF_at F hlk (by omega))
      have c2 := (hkb.cell (k * 6 + 2)).trans (flatF_at F hlk (by omega))
      have c3 := (hkb.cell (k * 6 + 3)).trans (flatF_at F hlk (by omega))
      have c4 := (hkb.cell (k * 6 + 4)).trans (flatF_at F hlk (by omega))
      have c5 := (hkb.cell (k * 6 + 5)).trans (flatF_at F hlk (by omega))
      have hlw : w.heap.size < wo.heap.size := by omega
      clear hkb
      go_wp2_with fail
      have HBX := Lib.hid (Blk.new wo 54 #[.int .i64 (F k 0), .int .i64 (F k 1), .int .i64 (F k 2), .int .i64 (F k 3), .int .i64 (F k 4), .int .i64 (F k 5)])
      have HBA : Hid (Below w1.heap.size w1 (wo.alloc (.cells #[.int .i64 (F k 0), .int .i64 (F k 1), .int .i64 (F k 2), .int .i64 (F k 3), .int .i64 (F k 4), .int .i64 (F k 5)] 54))) := by unfold Hid; have := HBL.out; (repeat' (first | (with_reducible exact Below.refl _ _) | (with_reducible assumption) | (with_reducible refine Below.alloc ?_ ?_ _) | (with_reducible refine Below.drew ?_) | (with_reducible refine belowDrewN ?_ _) | (with_reducible refine Below.setCell ?_ ?_ _) | (with_reducible refine Below.via (by with_reducible assumption) ?_ ?_) | (with_reducible refine Below.viaD (by with_reducible assumption) ?_ ?_) | (with_reducible exact Below.size (by with_reducible assumption)) | go_size | (with_reducible refine Nat.le_trans ?_ (Below.size (by with_reducible assumption))) | (with_reducible refine Nat.le_trans ?_ (sizeAlloc _ _)) | (with_reducible refine Nat.le_trans ?_ (sizeSet _ _ _)) | (with_reducible refine Nat.le_trans ?_ (sizeDrew _))))
      clear c0 c1 c2 c3 c4 c5
      go_loopw [9, 24] (fun u i w2 => ∃ j : Nat, j ≤ n ∧ i = .int .i64 j ∧ u = .int .i64 (1 + cntB F k j) ∧ Below (wo.alloc (.cells #[.int .i64 (F k 0), .int .i64 (F k 1), .int .i64 (F k 2), .int .i64 (F k 3), .int .i64 (F k 4), .int .i64 (F k 5)] 54)).heap.size (wo.alloc (.cells #[.int .i64 (F k 0), .int .i64 (F k 1), .int .i64 (F k 2), .int .i64 (F k 3), .int .i64 (F k 4), .int .i64 (F k 5)] 54)) w2) (fun _ i _ => n - (intOf i).toNat)
      case atStart => exact ⟨0, Nat.zero_le _, rfl, by simp [cntB], Below.refl _ _⟩
      case round =>
        obtain ⟨j, hj, rfl, rfl, hbl2⟩ := hrel
        have C := Below.via hbl2 HBA.out HBA.out.size
        have hkb2 := HK.out.later C
        have hx2 := HBX.out.later hbl2
        have hz2 := hkb2.lt
        have hz3 := hx2.lt
        have HC := Lib.hid C
        have HBL2 := Lib.hid hbl2
        by_cases hlj : j < n
        · have c0 := (hkb2.cell (j * 6)).trans (flatF_at0 F hlj)
          have c1 := (hkb2.cell (j * 6 + 1)).trans (flatF_at F hlj (by omega))
          have c2 := (hkb2.cell (j * 6 + 2)).trans (flatF_at F hlj (by omega))
          have c3 := (hkb2.cell (j * 6 + 3)).trans (flatF_at F hlj (by omega))
          have c4 := (hkb2.cell (j * 6 + 4)).trans (flatF_at F hlj (by omega))
          have c5 := (hkb2.cell (j * 6 + 5)).trans (flatF_at F hlj (by omega))
          have d0 := hx2.cell 0
          have d1 := hx2.cell 1
          have d2 := hx2.cell 2
          have d3 := hx2.cell 3
          have d4 := hx2.cell 4
          have d5 := hx2.cell 5
          simp only [List.getElem?_toArray, List.getElem?_cons_zero, List.getElem?_cons_succ] at d0 d1 d2 d3 d4 d5
          obtain ⟨q, hq⟩ : ∃ q, btF F j k = q := ⟨_, rfl⟩
          have HX : Hid (cntB F k (j + 1) = cntB F k j + (if q then 1 else 0)) := by unfold Hid; rw [cntB, hq]
          have HQ : Hid (btV (F j 1) (F j 4) (F j 5) (F j 2) (F k 1) (F k 4) (F k 5) (F k 2) = q) := hq
          obtain ⟨u0, u1⟩ := cntB_bd F k j
          clear hq C hkb2 hx2 hbl2
          revert u0 u1 HX
          generalize cntB F k j = u
          intro HX u0 u1
          go_wp2_with fail
          with_reducible refine Calls.mono (better_any (F j 0) (F j 1) (F j 2) (F j 3) (F j 4) (F j 5) (F k 0) (F k 1) (F k 2) (F k 3) (F k 4) (F k 5) q _ HQ.out) ?_
          rintro e w3 ⟨rfl, hb3⟩
          have HD : Hid (Below (wo.alloc (.cells #[.int .i64 (F k 0), .int .i64 (F k 1), .int .i64 (F k 2), .int .i64 (F k 3), .int .i64 (F k 4), .int .i64 (F k 5)] 54)).heap.size (wo.alloc (.cells #[.int .i64 (F k 0), .int .i64 (F k 1), .int .i64 (F k 2), .int .i64 (F k 3), .int .i64 (F k 4), .int .i64 (F k 5)] 54)) w3) := by unfold Hid; have := HBL2.out; (repeat' (first | (with_reducible exact Below.refl _ _) | (with_reducible assumption) | (with_reducible refine Below.alloc ?_ ?_ _) | (with_reducible refine Below.drew ?_) | (with_reducible refine belowDrewN ?_ _) | (with_reducible refine Below.setCell ?_ ?_ _) | (with_reducible refine Below.via (by with_reducible assumption) ?_ ?_) | (with_reducible refine Below.viaD (by with_reducible assumption) ?_ ?_) | (with_reducible exact Below.size (by with_reducible assumption)) | go_size | (with_reducible refine Nat.le_trans ?_ (Below.size (by with_reducible assumption))) | (with_reducible refine Nat.le_trans ?_ (sizeAlloc _ _)) | (with_reducible refine Nat.le_trans ?_ (sizeSet _ _ _)) | (with_reducible refine Nat.le_trans ?_ (sizeDrew _))))
          clear hb3 c0 c1 c2 c3 c4 c5 d0 d1 d2 d3 d4 d5
          cases q
          case true =>
            have HX2 : Hid (cntB F k (j + 1) = u + 1) := by unfold Hid; rw [HX.out]; rfl
            go_wp2_with fail
            go_roundw
            case rel => exact ⟨j + 1, by omega, by go_num, by rw [HX2.out]; exact congrArg (Value.int .i64) (by omega), HD.out⟩
            case measure => first | (simp [intOf]; done) | (simp [intOf]; omega)
          case false =>
            have HX2 : Hid (cntB F k (j + 1) = u) := by unfold Hid; rw [HX.out]; simp
            go_wp2_with fail
            go_roundw
            case rel => exact ⟨j + 1, by omega, by go_num, by rw [HX2.out], HD.out⟩
            case measure => first | (simp [intOf]; done) | (simp [intOf]; omega)
        · obtain rfl : j = n := by omega
          have hro := row_below HO.out (Below.via hbl2 (Below.alloc (Below.refl _ _) (Nat.le_refl _) _) (sizeAlloc _ _))
          have HRO := Lib.hid hro
          have hrs := C.size
          clear hkb2 hx2 hbl2 C hro
          go_wp2_with (at_builtin; refine wpList_append_sl _ rfl _ _ 27 rfl w1.heap.size 2 i0 _ 1 8 Try.underlying27 ti tz0 tz1 tz2 rfl (by decide) _ k (rkL F j k) rfl (HRO.out.alloc _) (wr.heap.size + 1) _ 1 1 [.int .i64 (1 + cntB F k j)] rfl (Sl.built (by simp) (by simp) rfl) ?c1 ?c2 ?c3 ?c4 ?_)
          case c1 => intro u hu; simp at hu; subst hu; rfl
          case c2 => unfold maxLen; omega
          case c3 => omega
          case c4 => first | (simp; done) | (simp; omega)
          intro v' w4 hown4 hg4 _
          have hbn : Below w1.heap.size w1 w4 := below_app (by have := HC.out; (repeat' (first | (with_reducible exact Below.refl _ _) | (with_reducible assumption) | (with_reducible refine Below.alloc ?_ ?_ _) | (with_reducible refine Below.drew ?_) | (with_reducible refine belowDrewN ?_ _) | (with_reducible refine Below.setCell ?_ ?_ _) | (with_reducible refine Below.via (by with_reducible assumption) ?_ ?_) | (with_reducible refine Below.viaD (by with_reducible assumption) ?_ ?_) | (with_reducible exact Below.size (by with_reducible assumption)) | go_size | (with_reducible refine Nat.le_trans ?_ (Below.size (by with_reducible assumption))) | (with_reducible refine Nat.le_trans ?_ (sizeAlloc _ _)) | (with_reducible refine Nat.le_trans ?_ (sizeSet _ _ _)) | (with_reducible refine Nat.le_trans ?_ (sizeDrew _))))) (HRO.out.alloc _) hg4 (Nat.le_refl _) (by simp; omega)
          have HO4 := Lib.hid hown4
          clear hown4 hg4
          go_wp2_with fail
          go_roundw
          case rel => exact ⟨k + 1, by omega, by go_num, by rw [rkL_snoc]; exact HO4.out, hbn⟩
          case measure => first | (simp [intOf]; done) | (simp [intOf]; omega)
    · obtain rfl : k = n := by omega
      obtain ⟨A', g, cap, rfl, hg, hnc, hcm, ho'⟩ := own_of_row HO.out
      go_wp2_with fail
      go_ret
      exact ⟨A', g, cap, rfl, Nat.le_trans HB.out.size hg, ho', Below.via HBL.out HB.out HB.out.size⟩
end Go.Proofs.Ytlogcbiebpfmlaa
