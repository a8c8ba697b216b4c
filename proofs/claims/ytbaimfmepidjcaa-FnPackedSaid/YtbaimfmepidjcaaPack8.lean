/- Lists made of runs, by both functions. Conditions: fewer than 2000000 runs. -/
import Derived.Test.YtbaimfmepidjcaaPack4
namespace Go.Proofs.Ytbaimfmepidjcaa
set_option linter.unusedSimpArgs false
set_option linter.unusedVariables false
open Go.RowKit Go.WideShapes

def okRun (r : Int × Int) : Bool := isItemR r.1 && inB r.2 1 4000
theorem okRuns_eq (rs : List (Int × Int)) : okRuns rs = rs.all okRun := rfl
theorem expand_succ {rs : List (Int × Int)} {k : Nat} {x t : Int} (h : k < rs.length) (hx : rs.getD k (0, 0) = (x, t)) : expand (rs.take (k + 1)) = expand (rs.take k) ++ List.replicate t.toNat x := by
  rw [take_succ_getD (0, 0) h, hx]; exact expand_snoc _ _ _
theorem expand_le (rs : List (Int × Int)) (k : Nat) : (expand (rs.take k)).length ≤ (expand rs).length := by
  have h := List.take_append_drop k rs
  have e : (expand rs) = expand (rs.take k) ++ expand (rs.drop k) := by
    rw [← h, expand, List.flatMap_append, h]; rfl
  rw [e, List.length_append]; omega
theorem fromRuns_bad {rs : List (Int × Int)} (h : okRuns rs = false) : fromRuns rs = none := by rw [fromRuns, h]; rfl
theorem fromRuns_full {rs : List (Int × Int)} (h : 4000 < (expand rs).length) : fromRuns rs = none := by rw [fromRuns, if_neg]; simp; intro _; omega
theorem fromRuns_done {rs : List (Int × Int)} (h1 : okRuns rs = true) (h2 : (expand rs).length ≤ 4000) : fromRuns rs = some (expand rs) := by rw [fromRuns, if_pos]; simp [h1, h2]
def iV (l : List Int) : List Value := l.map (Value.int .i64)
theorem iV_app (a b : List Int) : iV (a ++ b) = iV a ++ iV b := List.map_append
theorem iV_len (a : List Int) : (iV a).length = a.length := List.length_map _
theorem info_i64 : (Try.prog.info? 2).map (fun i => (i.zero, i.size, i.bytes)) = some (some (.int .i64 0), 1, 8) := by kernel_rfl
/-- What FromRuns returns. -/
def FromPost (rs : List (Int × Int)) (w : World) (e : Ending) (w' : World) : Prop := (∀ l, fromRuns rs = some l → ∃ v, e = .returned (.tuple #[v, .int .i64 0]) ∧ w'.ownsRow w.heap.size 2 1 v l.length (iV l)) ∧ (fromRuns rs = none → ∃ c : Int, c ≠ 0 ∧ e = .returned (.tuple #[.slice none 0 0, .int .i64 c])) ∧ Below w.heap.size w w'
theorem FromPost.bad {rs : List (Int × Int)} {w w' : World} {c : Int} (h : fromRuns rs = none) (hc : c ≠ 0) (hb : Below w.heap.size w w') : FromPost rs w (.returned (.tuple #[.slice none 0 0, .int .i64 c])) w' :=
  ⟨fun l hl => (by rw [h] at hl; cases hl), fun _ => ⟨c, hc, rfl⟩, hb⟩
theorem FromPost.good {rs : List (Int × Int)} {w w' : World} {v : Value} {l : List Int} (h : fromRuns rs = some l) (ho : w'.ownsRow w.heap.size 2 1 v l.length (iV l)) (hb : Below w.heap.size w w') : FromPost rs w (.returned (.tuple #[v, .int .i64 0])) w' :=
  ⟨fun l' hl => (by rw [h] at hl; injection hl with hl; subst hl; exact ⟨v, rfl, ho⟩), fun hl => (by rw [h] at hl; cases hl), hb⟩
theorem BlkF.far' {w w' : World} {g : Nat} {t : TypeId} {cs : Array Value} {row : Option Nat} (h : Blk w g t cs) (hg : w.grownBy w' row) (hne : some g ≠ row) : Blk w' g t cs := (hg.block g h.lt hne).trans h
theorem run_cells {w wr : World} {n : Nat} {A : Option Addr} {rs : List (Int × Int)} (hs : Sl w w.heap.size 2 A n (rV rs)) (hb : Below w.heap.size w wr) {k : Nat} (hl : rs.length = n) (hk : k < n) : ∃ b off x t, A = some ⟨b, off, none⟩ ∧ b < w.heap.size ∧ Hid (rs.getD k (0, 0) = (x, t)) ∧ wr.cell? ⟨b, off + k * 2, none⟩ = some (.int .i64 x) ∧ wr.cell? ⟨b, off + k * 2 + 1, none⟩ = some (.int .i64 t) := by
  obtain ⟨b, off, e, hb', hc⟩ := (hs.below hb).2 (by omega)
  have h0 := hc _ _ (rV_at (show k < rs.length by omega)).1
  have h1 := hc _ _ (rV_at (show k < rs.length by omega)).2
  rw [← Nat.add_assoc] at h1
  exact ⟨b, off, _, _, e, hb', rfl, h0, h1⟩

theorem boxedF (w : World) (o : Obj) : Below w.heap.size w (w.alloc o) := Below.alloc (Below.refl _ _) (Nat.le_refl _) o
theorem own_neF {w : World} {base : Nat} {e : TypeId} {size : Nat} {v : Value} {n : Nat} {xs : List Value} (h : w.ownsRow base e size v n xs) {k : Nat} (hk : w.heap.size ≤ k) : some k ≠ v.ownBlock := fun he => by
  have := (h.lt k he.symm).2
  omega
set_option maxRecDepth 100000 in
set_option maxHeartbeats 8000000 in
theorem FromRuns_any (A : Option Addr) (n c : Nat) (rs : List (Int × Int)) (w : World) (hs : Sl w w.heap.size 2 A n (rV rs)) (hl : rs.length = n) (hn : n ≤ 2000000) : Calls Try.prog 14 #[.slice A n c] w (FromPost rs w) := by
  obtain ⟨i0, ti, tz0, tz1, tz2⟩ := info_parts info_i64
  have HL := Lib.hid hl
  have HS := Lib.hid hs
  clear hl hs
  go_enter Try.func14, Try.ntmps14
  go_wp2_with fail
  go_loopw [11] (fun i wr => ∃ k : Nat, k ≤ n ∧ i = .int .i64 k ∧ Hid (∀ j, j < k → okRun (rs.getD j (0, 0)) = true) ∧ Below w.heap.size w wr) (fun i _ => n - (intOf i).toNat)
  case atStart => exact ⟨0, Nat.zero_le _, rfl, fun j hj => absurd hj (by omega), by (repeat' (first | (with_reducible exact Below.refl _ _) | (with_reducible assumption) | (with_reducible refine Below.alloc ?_ ?_ _) | (with_reducible refine Below.drew ?_) | (with_reducible refine belowDrewN ?_ _) | (with_reducible refine Below.setCell ?_ ?_ _) | (with_reducible refine Below.via (by with_reducible assumption) ?_ ?_) | (with_reducible refine Below.viaD (by with_reducible assumption) ?_ ?_) | (with_reducible exact Below.size (by with_reducible assumption)) | go_size | (with_reducible refine Nat.le_trans ?_ (Below.size (by with_reducible assumption))) | (with_reducible refine Nat.le_trans ?_ (sizeAlloc _ _)) | (with_reducible refine Nat.le_trans ?_ (sizeSet _ _ _)) | (with_reducible refine Nat.le_trans ?_ (sizeDrew _))))⟩
  case round =>
    obtain ⟨k, hk, rfl, hpre, hbl⟩ := hrel
    have hbs := hbl.size
    by_cases hlt : k < n
    case pos =>
      obtain ⟨b, off, x, t, rfl, hb', HX, hk0, hk1⟩ := run_cells HS.out hbl HL.out hlt
      have HNO : Hid (okRun (x, t) = false → fromRuns rs = none) := fun h => fromRuns_bad (by rw [okRuns_eq]; exact all_false (k := k) (d := (0, 0)) (by rw [HL.out]; exact hlt) (by rw [HX.out]; exact h))
      have HYES : Hid (okRun (x, t) = true → ∀ j, j < k + 1 → okRun (rs.getD j (0, 0)) = true) := fun h j hj => by
        rcases Nat.lt_or_ge j k with h' | h'
        · exact hpre.out j h'
        · obtain rfl : j = k := by omega
          rw [HX.out]; exact h
      obtain ⟨q1, hq1⟩ : ∃ q, isItemR x = q := ⟨_, rfl⟩
      obtain ⟨q2, hq2⟩ : ∃ q, inB t 1 4000 = q := ⟨_, rfl⟩
      have HOK : Hid (okRun (x, t) = (q1 && q2)) := by unfold Hid; rw [okRun, hq1, hq2]
      have H1 := Lib.hid hq1
      have H2 := Lib.hid hq2
      clear hq1 hq2
      cases q1
      case false =>
        go_wp2_with (first | ((go_at_call 29; refine (isItem_any _ _).mono ?_; rintro e w_ ⟨rfl, rfl⟩; rw [H1.out])) | (go_at_call 30; refine (between_any _ _ _ _).mono ?_; rintro e w_ ⟨rfl, rfl⟩))
        go_ret2
        exact FromPost.bad (HNO.out (by rw [HOK.out]; rfl)) (by decide) (by (repeat' (first | (with_reducible exact Below.refl _ _) | (with_reducible assumption) | (with_reducible refine Below.alloc ?_ ?_ _) | (with_reducible refine Below.drew ?_) | (with_reducible refine belowDrewN ?_ _) | (with_reducible refine Below.setCell ?_ ?_ _) | (with_reducible refine Below.via (by with_reducible assumption) ?_ ?_) | (with_reducible refine Below.viaD (by with_reducible assumption) ?_ ?_) | (with_reducible exact Below.size (by with_reducible assumption)) | go_size | (with_reducible refine Nat.le_trans ?_ (Below.size (by with_reducible assumption))) | (with_reducible refine Nat.le_trans ?_ (sizeAlloc _ _)) | (with_reducible refine Nat.le_trans ?_ (sizeSet _ _ _)) | (with_reducible refine Nat.le_trans ?_ (sizeDrew _)))))
      case true =>
        cases q2
        case false =>
          go_wp2_with (first | (go_at_call 29; refine (isItem_any _ _).mono ?_; rintro e w_ ⟨rfl, rfl⟩; rw [H1.out]) | (go_at_call 30; refine (between_any _ _ _ _).mono ?_; rintro e w_ ⟨rfl, rfl⟩; rw [H2.out]))
          go_ret2
          exact FromPost.bad (HNO.out (by rw [HOK.out]; rfl)) (by decide) (by (repeat' (first | (with_reducible exact Below.refl _ _) | (with_reducible assumption) | (with_reducible refine Below.alloc ?_ ?_ _) | (with_reducible refine Below.drew ?_) | (with_reducible refine belowDrewN ?_ _) | (with_reducible refine Below.setCell ?_ ?_ _) | (with_reducible refine Below.via (by with_reducible assumption) ?_ ?_) | (with_reducible refine Below.viaD (by with_reducible assumption) ?_ ?_) | (with_reducible exact Below.size (by with_reducible assumption)) | go_size | (with_reducible refine Nat.le_trans ?_ (Below.size (by with_reducible assumption))) | (with_reducible refine Nat.le_trans ?_ (sizeAlloc _ _)) | (with_reducible refine Nat.le_trans ?_ (sizeSet _ _ _)) | (with_reducible refine Nat.le_trans ?_ (sizeDrew _)))))
        case true =>
          have HN := Lib.hid (HYES.out (by rw [HOK.out]; rfl))
          clear HYES HNO
          go_wp2_with (first | (go_at_call 29; refine (isItem_any _ _).mono ?_; rintro e w_ ⟨rfl, rfl⟩; rw [H1.out]) | (go_at_call 30; refine (between_any _ _ _ _).mono ?_; rintro e w_ ⟨rfl, rfl⟩; rw [H2.out]))
          go_roundw
          case rel => exact ⟨k + 1, by omega, by go_num, HN.out, by (repeat' (first | (with_reducible exact Below.refl _ _) | (with_reducible assumption) | (with_reducible refine Below.alloc ?_ ?_ _) | (with_reducible refine Below.drew ?_) | (with_reducible refine belowDrewN ?_ _) | (with_reducible refine Below.setCell ?_ ?_ _) | (with_reducible refine Below.via (by with_reducible assumption) ?_ ?_) | (with_reducible refine Below.viaD (by with_reducible assumption) ?_ ?_) | (with_reducible exact Below.size (by with_reducible assumption)) | go_size | (with_reducible refine Nat.le_trans ?_ (Below.size (by with_reducible assumption))) | (with_reducible refine Nat.le_trans ?_ (sizeAlloc _ _)) | (with_reducible refine Nat.le_trans ?_ (sizeSet _ _ _)) | (with_reducible refine Nat.le_trans ?_ (sizeDrew _))))⟩
          case measure => first | (simp [intOf]; done) | (simp [intOf]; omega)
    case neg =>
      obtain rfl : k = n := by omega
      have HOK : Hid (okRuns rs = true) := by
        unfold Hid
        rw [okRuns_eq]
        exact all_true (d := (0, 0)) (fun j hj => hpre.out j (by rw [← HL.out]; exact hj))
      have HRUN : Hid (∀ j x t, j < k → rs.getD j (0, 0) = (x, t) → 1 ≤ t ∧ t ≤ 4000) := fun j x t hj he => by
        have h := hpre.out j hj
        rw [he, okRun, Bool.and_eq_true] at h
        exact inB_of h.2
      clear hpre hk hlt
      rename World => w1
      go_wp2_with fail
      go_loopw [6, 29] (fun v i wr => ∃ (k2 m : Nat), k2 ≤ k ∧ i = .int .i64 k2 ∧ Hid (m = (expand (rs.take k2)).length) ∧ m ≤ 4000 ∧ wr.ownsRow w.heap.size 2 1 v m (iV (expand (rs.take k2))) ∧ Below w.heap.size w wr) (fun _ i _ => k - (intOf i).toNat)
      case atStart => exact ⟨0, 0, Nat.zero_le _, rfl, rfl, by omega, World.ownsRow_made _ _ 0 (by first | exact hbs | (simp; omega)) (Nat.zero_le _) rfl, by (repeat' (first | (with_reducible exact Below.refl _ _) | (with_reducible assumption) | (with_reducible refine Below.alloc ?_ ?_ _) | (with_reducible refine Below.drew ?_) | (with_reducible refine belowDrewN ?_ _) | (with_reducible refine Below.setCell ?_ ?_ _) | (with_reducible refine Below.via (by with_reducible assumption) ?_ ?_) | (with_reducible refine Below.viaD (by with_reducible assumption) ?_ ?_) | (with_reducible exact Below.size (by with_reducible assumption)) | go_size | (with_reducible refine Nat.le_trans ?_ (Below.size (by with_reducible assumption))) | (with_reducible refine Nat.le_trans ?_ (sizeAlloc _ _)) | (with_reducible refine Nat.le_trans ?_ (sizeSet _ _ _)) | (with_reducible refine Nat.le_trans ?_ (sizeDrew _))))⟩
      case round =>
        obtain ⟨k2, m, hk2, rfl, HM, hm4, hown, hb2⟩ := hrel
        rename World => wo
        have hbs2 := hb2.size
        by_cases hlt : k2 < k
        case pos =>
          obtain ⟨b, off, x, t, rfl, hb', HX, hk0, hk1⟩ := run_cells HS.out hb2 HL.out hlt
          obtain ⟨ht1, ht2⟩ := HRUN.out k2 x t hlt HX.out
          have HE := Lib.hid (expand_succ (by rw [HL.out]; exact hlt) HX.out)
          obtain ⟨A', g, cap, rfl, hgb, hqc, hcm, hov⟩ := own_of_row hown
          have HW := Lib.hid hown
          clear hown hov
          by_cases hfull : 4000 < (m : Int) + t
          case pos =>
            have hno : fromRuns rs = none := by
              refine fromRuns_full ?_
              have h := expand_le rs (k2 + 1)
              rw [HE.out, List.length_append, List.length_replicate, ← HM.out] at h
              omega
            have HNO := Lib.hid hno
            clear hno
            go_wp2_with fail
            go_ret2
            exact FromPost.bad HNO.out (by decide) (by (repeat' (first | (with_reducible exact Below.refl _ _) | (with_reducible assumption) | (with_reducible refine Below.alloc ?_ ?_ _) | (with_reducible refine Below.drew ?_) | (with_reducible refine belowDrewN ?_ _) | (with_reducible refine Below.setCell ?_ ?_ _) | (with_reducible refine Below.via (by with_reducible assumption) ?_ ?_) | (with_reducible refine Below.viaD (by with_reducible assumption) ?_ ?_) | (with_reducible exact Below.size (by with_reducible assumption)) | go_size | (with_reducible refine Nat.le_trans ?_ (Below.size (by with_reducible assumption))) | (with_reducible refine Nat.le_trans ?_ (sizeAlloc _ _)) | (with_reducible refine Nat.le_trans ?_ (sizeSet _ _ _)) | (with_reducible refine Nat.le_trans ?_ (sizeDrew _)))))
          case neg =>
            obtain ⟨tn, rfl⟩ : ∃ tn : Nat, t = tn := ⟨t.toNat, by omega⟩
            have HT : Hid ((tn : Int).toNat = tn) := by unfold Hid; omega
            go_wp2_with fail
            go_loopw [6, 41] (fun v i wr => ∃ j : Nat, j ≤ tn ∧ i = .int .i64 j ∧ wr.ownsRow w.heap.size 2 1 v (m + j) (iV (expand (rs.take k2) ++ List.replicate j x)) ∧ Below w.heap.size w wr ∧ Blk wr wo.heap.size 37 #[.int .i64 x, .int .i64 tn] ∧ some wo.heap.size ≠ v.ownBlock) (fun _ i _ => tn - (intOf i).toNat)
            case atStart => exact ⟨0, Nat.zero_le _, rfl, by rw [List.replicate_zero, List.append_nil]; exact row_below HW.out (by (repeat' (first | (with_reducible exact Below.refl _ _) | (with_reducible assumption) | (with_reducible refine Below.alloc ?_ ?_ _) | (with_reducible refine Below.drew ?_) | (with_reducible refine belowDrewN ?_ _) | (with_reducible refine Below.setCell ?_ ?_ _) | (with_reducible refine Below.via (by with_reducible assumption) ?_ ?_) | (with_reducible refine Below.viaD (by with_reducible assumption) ?_ ?_) | (with_reducible exact Below.size (by with_reducible assumption)) | go_size | (with_reducible refine Nat.le_trans ?_ (Below.size (by with_reducible assumption))) | (with_reducible refine Nat.le_trans ?_ (sizeAlloc _ _)) | (with_reducible refine Nat.le_trans ?_ (sizeSet _ _ _)) | (with_reducible refine Nat.le_trans ?_ (sizeDrew _))))), by (repeat' (first | (with_reducible exact Below.refl _ _) | (with_reducible assumption) | (with_reducible refine Below.alloc ?_ ?_ _) | (with_reducible refine Below.drew ?_) | (with_reducible refine belowDrewN ?_ _) | (with_reducible refine Below.setCell ?_ ?_ _) | (with_reducible refine Below.via (by with_reducible assumption) ?_ ?_) | (with_reducible refine Below.viaD (by with_reducible assumption) ?_ ?_) | (with_reducible exact Below.size (by with_reducible assumption)) | go_size | (with_reducible refine Nat.le_trans ?_ (Below.size (by with_reducible assumption))) | (with_reducible refine Nat.le_trans ?_ (sizeAlloc _ _)) | (with_reducible refine Nat.le_trans ?_ (sizeSet _ _ _)) | (with_reducible refine Nat.le_trans ?_ (sizeDrew _)))), Blk.new _ _ _, own_neF HW.out (Nat.le_refl _)⟩
            case round =>
              obtain ⟨j, hj, rfl, hown, hb3, hblk, hne⟩ := hrel
              rename World => wi
              have hbs3 := hb3.size
              have HW3 := Lib.hid hown
              clear hown
              by_cases hlj : j < tn
              case pos =>
                have HR : Hid (expand (rs.take k2) ++ List.replicate (j + 1) x = (expand (rs.take k2) ++ List.replicate j x) ++ [x]) := by unfold Hid; rw [List.replicate_succ', List.append_assoc]
                have hbx0 := hblk.cell 0
                have hbx1 := hblk.cell 1
                simp only [List.getElem?_toArray, List.getElem?_cons_zero, List.getElem?_cons_succ] at hbx0 hbx1
                have HBK := Lib.hid hblk
                have HNE := Lib.hid hne
                have hgl := hblk.lt
                clear hblk hne
                go_wp2_with (at_builtin; refine wpList_append_sl _ rfl _ _ 22 rfl w.heap.size 2 i0 _ 1 8 Try.underlying22 ti tz0 tz1 tz2 rfl (by decide) _ (m + j) (iV (expand (rs.take k2) ++ List.replicate j x)) rfl (HW3.out.alloc _) (wi.heap.size + 1) _ 1 1 [.int .i64 x] rfl (Sl.built (by simp) (by simp) rfl) ?c1 ?c2 ?c3 ?c4 ?_)
                case c1 => intro u hu; simp at hu; subst hu; rfl
                case c2 => unfold maxLen; omega
                case c3 => omega
                case c4 => simp; omega
                intro v5 w5 hown5 hg5 hbk5
                have hbn : Below w.heap.size w w5 := below_app (by (repeat' (first | (with_reducible exact Below.refl _ _) | (with_reducible assumption) | (with_reducible refine Below.alloc ?_ ?_ _) | (with_reducible refine Below.drew ?_) | (with_reducible refine belowDrewN ?_ _) | (with_reducible refine Below.setCell ?_ ?_ _) | (with_reducible refine Below.via (by with_reducible assumption) ?_ ?_) | (with_reducible refine Below.viaD (by with_reducible assumption) ?_ ?_) | (with_reducible exact Below.size (by with_reducible assumption)) | go_size | (with_reducible refine Nat.le_trans ?_ (Below.size (by with_reducible assumption))) | (with_reducible refine Nat.le_trans ?_ (sizeAlloc _ _)) | (with_reducible refine Nat.le_trans ?_ (sizeSet _ _ _)) | (with_reducible refine Nat.le_trans ?_ (sizeDrew _))))) (HW3.out.alloc _) hg5 (Nat.le_refl _) (by simp; omega)
                have HW5 : Hid (w5.ownsRow w.heap.size 2 1 v5 (m + (j + 1)) (iV (expand (rs.take k2) ++ List.replicate (j + 1) x))) := by unfold Hid; rw [HR.out, iV_app]; exact hown5
                have HBK5 : Hid (Blk w5 wo.heap.size 37 #[.int .i64 x, .int .i64 tn]) := BlkF.far' (HBK.out.later (boxedF _ _)) hg5 HNE.out
                have HNE5 : Hid (some wo.heap.size ≠ v5.ownBlock) := by
                  unfold Hid
                  rcases hbk5 with h | h
                  · rw [h]; exact HNE.out
                  · rw [h]; intro he; injection he with he; (try simp at he); omega
                clear hown5 hg5 hbk5
                go_wp2_with fail
                go_roundw
                case rel => exact ⟨j + 1, by omega, by go_num, HW5.out, hbn, HBK5.out, HNE5.out⟩
                case measure => first | (simp [intOf]; done) | (simp [intOf]; omega)
              case neg =>
                obtain rfl : j = tn := by omega
                have HM2 : Hid (m + j = (expand (rs.take (k2 + 1))).length) := by unfold Hid; rw [HE.out, HT.out, List.length_append, List.length_replicate, ← HM.out]
                have hE2 := HE.out
                rw [HT.out] at hE2
                have hw6 := HW3.out
                rw [← hE2] at hw6
                have HW6 := Lib.hid hw6
                clear hw6 hE2
                clear HW3 hblk hne
                go_wp2_with fail
                go_roundw
                case rel => exact ⟨k2 + 1, m + j, by omega, by go_num, HM2.out, by omega, HW6.out, hb3⟩
                case measure => first | (simp [intOf]; done) | (simp [intOf]; omega)
        case neg =>
          obtain rfl : k2 = k := by omega
          have HT : Hid (rs.take k2 = rs) := List.take_of_length_le (by rw [HL.out]; exact Nat.le_refl _)
          have hM := HM.out
          rw [HT.out] at hown hM
          have HY := Lib.hid (fromRuns_done HOK.out (by rw [← hM]; exact hm4))
          have HW := Lib.hid hown
          have HMM := Lib.hid hM
          clear hown hM
          go_wp2_with fail
          go_ret2
          exact FromPost.good HY.out (by rw [← HMM.out]; exact HW.out) hb2
set_option maxRecDepth 100000 in
set_option maxHeartbeats 8000000 in
theorem sFromRuns_any (A : Option Addr) (n c : Nat) (rs : List (Int × Int)) (w : World) (hs : Sl w w.heap.size 2 A n (rV rs)) (hl : rs.length = n) (hn : n ≤ 2000000) : Calls Try.prog 41 #[.slice A n c] w (FromPost rs w) := by
  obtain ⟨i0, ti, tz0, tz1, tz2⟩ := info_parts info_i64
  have HL := Lib.hid hl
  have HS := Lib.hid hs
  clear hl hs
  go_enter Try.func41, Try.ntmps41
  go_wp2_with fail
  go_loopw [4] (fun i wr => ∃ k : Nat, k ≤ n ∧ i = .int .i64 k ∧ Hid (∀ j, j < k → okRun (rs.getD j (0, 0)) = true) ∧ Below w.heap.size w wr) (fun i _ => n - (intOf i).toNat)
  case atStart => exact ⟨0, Nat.zero_le _, rfl, fun j hj => absurd hj (by omega), by (repeat' (first | (with_reducible exact Below.refl _ _) | (with_reducible assumption) | (with_reducible refine Below.alloc ?_ ?_ _) | (with_reducible refine Below.drew ?_) | (with_reducible refine belowDrewN ?_ _) | (with_reducible refine Below.setCell ?_ ?_ _) | (with_reducible refine Below.via (by with_reducible assumption) ?_ ?_) | (with_reducible refine Below.viaD (by with_reducible assumption) ?_ ?_) | (with_reducible exact Below.size (by with_reducible assumption)) | go_size | (with_reducible refine Nat.le_trans ?_ (Below.size (by with_reducible assumption))) | (with_reducible refine Nat.le_trans ?_ (sizeAlloc _ _)) | (with_reducible refine Nat.le_trans ?_ (sizeSet _ _ _)) | (with_reducible refine Nat.le_trans ?_ (sizeDrew _))))⟩
  case round =>
    obtain ⟨k, hk, rfl, hpre, hbl⟩ := hrel
    have hbs := hbl.size
    by_cases hlt : k < n
    case pos =>
      obtain ⟨b, off, x, t, rfl, hb', HX, hk0, hk1⟩ := run_cells HS.out hbl HL.out hlt
      have HNO : Hid (okRun (x, t) = false → fromRuns rs = none) := fun h => fromRuns_bad (by rw [okRuns_eq]; exact all_false (k := k) (d := (0, 0)) (by rw [HL.out]; exact hlt) (by rw [HX.out]; exact h))
      have HYES : Hid (okRun (x, t) = true → ∀ j, j < k + 1 → okRun (rs.getD j (0, 0)) = true) := fun h j hj => by
        rcases Nat.lt_or_ge j k with h' | h'
        · exact hpre.out j h'
        · obtain rfl : j = k := by omega
          rw [HX.out]; exact h
      obtain ⟨q1, hq1⟩ : ∃ q, isItemR x = q := ⟨_, rfl⟩
      obtain ⟨q2, hq2⟩ : ∃ q, inB t 1 4000 = q := ⟨_, rfl⟩
      have HOK : Hid (okRun (x, t) = (q1 && q2)) := by unfold Hid; rw [okRun, hq1, hq2]
      have H1 := Lib.hid hq1
      have H2 := Lib.hid hq2
      clear hq1 hq2
      cases q1
      case false =>
        go_wp2_with (first | ((go_at_call 36; refine (l14Item_any _ _).mono ?_; rintro e w_ ⟨rfl, rfl⟩; rw [H1.out])) | (go_at_call 42; refine (l00In_any _ _ _ _).mono ?_; rintro e w_ ⟨rfl, rfl⟩))
        go_ret2
        exact FromPost.bad (HNO.out (by rw [HOK.out]; rfl)) (by decide) (by (repeat' (first | (with_reducible exact Below.refl _ _) | (with_reducible assumption) | (with_reducible refine Below.alloc ?_ ?_ _) | (with_reducible refine Below.drew ?_) | (with_reducible refine belowDrewN ?_ _) | (with_reducible refine Below.setCell ?_ ?_ _) | (with_reducible refine Below.via (by with_reducible assumption) ?_ ?_) | (with_reducible refine Below.viaD (by with_reducible assumption) ?_ ?_) | (with_reducible exact Below.size (by with_reducible assumption)) | go_size | (with_reducible refine Nat.le_trans ?_ (Below.size (by with_reducible assumption))) | (with_reducible refine Nat.le_trans ?_ (sizeAlloc _ _)) | (with_reducible refine Nat.le_trans ?_ (sizeSet _ _ _)) | (with_reducible refine Nat.le_trans ?_ (sizeDrew _)))))
      case true =>
        cases q2
        case false =>
          go_wp2_with (first | (go_at_call 36; refine (l14Item_any _ _).mono ?_; rintro e w_ ⟨rfl, rfl⟩; rw [H1.out]) | (go_at_call 42; refine (l00In_any _ _ _ _).mono ?_; rintro e w_ ⟨rfl, rfl⟩; rw [H2.out]))
          go_ret2
          exact FromPost.bad (HNO.out (by rw [HOK.out]; rfl)) (by decide) (by (repeat' (first | (with_reducible exact Below.refl _ _) | (with_reducible assumption) | (with_reducible refine Below.alloc ?_ ?_ _) | (with_reducible refine Below.drew ?_) | (with_reducible refine belowDrewN ?_ _) | (with_reducible refine Below.setCell ?_ ?_ _) | (with_reducible refine Below.via (by with_reducible assumption) ?_ ?_) | (with_reducible refine Below.viaD (by with_reducible assumption) ?_ ?_) | (with_reducible exact Below.size (by with_reducible assumption)) | go_size | (with_reducible refine Nat.le_trans ?_ (Below.size (by with_reducible assumption))) | (with_reducible refine Nat.le_trans ?_ (sizeAlloc _ _)) | (with_reducible refine Nat.le_trans ?_ (sizeSet _ _ _)) | (with_reducible refine Nat.le_trans ?_ (sizeDrew _)))))
        case true =>
          have HN := Lib.hid (HYES.out (by rw [HOK.out]; rfl))
          clear HYES HNO
          go_wp2_with (first | (go_at_call 36; refine (l14Item_any _ _).mono ?_; rintro e w_ ⟨rfl, rfl⟩; rw [H1.out]) | (go_at_call 42; refine (l00In_any _ _ _ _).mono ?_; rintro e w_ ⟨rfl, rfl⟩; rw [H2.out]))
          go_roundw
          case rel => exact ⟨k + 1, by omega, by go_num, HN.out, by (repeat' (first | (with_reducible exact Below.refl _ _) | (with_reducible assumption) | (with_reducible refine Below.alloc ?_ ?_ _) | (with_reducible refine Below.drew ?_) | (with_reducible refine belowDrewN ?_ _) | (with_reducible refine Below.setCell ?_ ?_ _) | (with_reducible refine Below.via (by with_reducible assumption) ?_ ?_) | (with_reducible refine Below.viaD (by with_reducible assumption) ?_ ?_) | (with_reducible exact Below.size (by with_reducible assumption)) | go_size | (with_reducible refine Nat.le_trans ?_ (Below.size (by with_reducible assumption))) | (with_reducible refine Nat.le_trans ?_ (sizeAlloc _ _)) | (with_reducible refine Nat.le_trans ?_ (sizeSet _ _ _)) | (with_reducible refine Nat.le_trans ?_ (sizeDrew _))))⟩
          case measure => first | (simp [intOf]; done) | (simp [intOf]; omega)
    case neg =>
      obtain rfl : k = n := by omega
      have HOK : Hid (okRuns rs = true) := by
        unfold Hid
        rw [okRuns_eq]
        exact all_true (d := (0, 0)) (fun j hj => hpre.out j (by rw [← HL.out]; exact hj))
      have HRUN : Hid (∀ j x t, j < k → rs.getD j (0, 0) = (x, t) → 1 ≤ t ∧ t ≤ 4000) := fun j x t hj he => by
        have h := hpre.out j hj
        rw [he, okRun, Bool.and_eq_true] at h
        exact inB_of h.2
      clear hpre hk hlt
      rename World => w1
      go_wp2_with fail
      go_loopw [5, 6] (fun v i wr => ∃ (k2 m : Nat), k2 ≤ k ∧ i = .int .i64 k2 ∧ Hid (m = (expand (rs.take k2)).length) ∧ m ≤ 4000 ∧ wr.ownsRow w.heap.size 2 1 v m (iV (expand (rs.take k2))) ∧ Below w.heap.size w wr) (fun _ i _ => k - (intOf i).toNat)
      case atStart => exact ⟨0, 0, Nat.zero_le _, rfl, rfl, by omega, World.ownsRow_made _ _ 0 (by first | exact hbs | (simp; omega)) (Nat.zero_le _) rfl, by (repeat' (first | (with_reducible exact Below.refl _ _) | (with_reducible assumption) | (with_reducible refine Below.alloc ?_ ?_ _) | (with_reducible refine Below.drew ?_) | (with_reducible refine belowDrewN ?_ _) | (with_reducible refine Below.setCell ?_ ?_ _) | (with_reducible refine Below.via (by with_reducible assumption) ?_ ?_) | (with_reducible refine Below.viaD (by with_reducible assumption) ?_ ?_) | (with_reducible exact Below.size (by with_reducible assumption)) | go_size | (with_reducible refine Nat.le_trans ?_ (Below.size (by with_reducible assumption))) | (with_reducible refine Nat.le_trans ?_ (sizeAlloc _ _)) | (with_reducible refine Nat.le_trans ?_ (sizeSet _ _ _)) | (with_reducible refine Nat.le_trans ?_ (sizeDrew _))))⟩
      case round =>
        obtain ⟨k2, m, hk2, rfl, HM, hm4, hown, hb2⟩ := hrel
        rename World => wo
        have hbs2 := hb2.size
        by_cases hlt : k2 < k
        case pos =>
          obtain ⟨b, off, x, t, rfl, hb', HX, hk0, hk1⟩ := run_cells HS.out hb2 HL.out hlt
          obtain ⟨ht1, ht2⟩ := HRUN.out k2 x t hlt HX.out
          have HE := Lib.hid (expand_succ (by rw [HL.out]; exact hlt) HX.out)
          obtain ⟨A', g, cap, rfl, hgb, hqc, hcm, hov⟩ := own_of_row hown
          have HW := Lib.hid hown
          clear hown hov
          by_cases hfull : 4000 < (m : Int) + t
          case pos =>
            have hno : fromRuns rs = none := by
              refine fromRuns_full ?_
              have h := expand_le rs (k2 + 1)
              rw [HE.out, List.length_append, List.length_replicate, ← HM.out] at h
              omega
            have HNO := Lib.hid hno
            clear hno
            go_wp2_with fail
            go_ret2
            exact FromPost.bad HNO.out (by decide) (by (repeat' (first | (with_reducible exact Below.refl _ _) | (with_reducible assumption) | (with_reducible refine Below.alloc ?_ ?_ _) | (with_reducible refine Below.drew ?_) | (with_reducible refine belowDrewN ?_ _) | (with_reducible refine Below.setCell ?_ ?_ _) | (with_reducible refine Below.via (by with_reducible assumption) ?_ ?_) | (with_reducible refine Below.viaD (by with_reducible assumption) ?_ ?_) | (with_reducible exact Below.size (by with_reducible assumption)) | go_size | (with_reducible refine Nat.le_trans ?_ (Below.size (by with_reducible assumption))) | (with_reducible refine Nat.le_trans ?_ (sizeAlloc _ _)) | (with_reducible refine Nat.le_trans ?_ (sizeSet _ _ _)) | (with_reducible refine Nat.le_trans ?_ (sizeDrew _)))))
          case neg =>
            obtain ⟨tn, rfl⟩ : ∃ tn : Nat, t = tn := ⟨t.toNat, by omega⟩
            have HT : Hid ((tn : Int).toNat = tn) := by unfold Hid; omega
            go_wp2_with fail
            go_loopw [5, 7] (fun v i wr => ∃ j : Nat, j ≤ tn ∧ i = .int .i64 j ∧ wr.ownsRow w.heap.size 2 1 v (m + j) (iV (expand (rs.take k2) ++ List.replicate j x)) ∧ Below w.heap.size w wr) (fun _ i _ => tn - (intOf i).toNat)
            case atStart => exact ⟨0, Nat.zero_le _, rfl, by rw [List.replicate_zero, List.append_nil]; exact HW.out, by (repeat' (first | (with_reducible exact Below.refl _ _) | (with_reducible assumption) | (with_reducible refine Below.alloc ?_ ?_ _) | (with_reducible refine Below.drew ?_) | (with_reducible refine belowDrewN ?_ _) | (with_reducible refine Below.setCell ?_ ?_ _) | (with_reducible refine Below.via (by with_reducible assumption) ?_ ?_) | (with_reducible refine Below.viaD (by with_reducible assumption) ?_ ?_) | (with_reducible exact Below.size (by with_reducible assumption)) | go_size | (with_reducible refine Nat.le_trans ?_ (Below.size (by with_reducible assumption))) | (with_reducible refine Nat.le_trans ?_ (sizeAlloc _ _)) | (with_reducible refine Nat.le_trans ?_ (sizeSet _ _ _)) | (with_reducible refine Nat.le_trans ?_ (sizeDrew _))))⟩
            case round =>
              obtain ⟨j, hj, rfl, hown, hb3⟩ := hrel
              rename World => wi
              have hbs3 := hb3.size
              have HW3 := Lib.hid hown
              clear hown
              by_cases hlj : j < tn
              case pos =>
                have HR : Hid (expand (rs.take k2) ++ List.replicate (j + 1) x = (expand (rs.take k2) ++ List.replicate j x) ++ [x]) := by unfold Hid; rw [List.replicate_succ', List.append_assoc]
                have hx0 : wi.cell? ⟨b, off + k2 * 2, none⟩ = some (.int .i64 x) := by
                  obtain ⟨b9, off9, x9, t9, e9, hb9, HX9, h0, h1⟩ := run_cells HS.out hb3 HL.out hlt
                  injection e9 with e9
                  injection e9 with e1 e2
                  subst e1 e2
                  have h := HX9.out.symm.trans HX.out
                  injection h with h2 h3
                  subst h2 h3
                  exact h0
                have hx1 : wi.cell? ⟨b, off + k2 * 2 + 1, none⟩ = some (.int .i64 tn) := by
                  obtain ⟨b9, off9, x9, t9, e9, hb9, HX9, h0, h1⟩ := run_cells HS.out hb3 HL.out hlt
                  injection e9 with e9
                  injection e9 with e1 e2
                  subst e1 e2
                  have h := HX9.out.symm.trans HX.out
                  injection h with h2 h3
                  subst h2 h3
                  exact h1
                go_wp2_with (at_builtin; refine wpList_append_sl _ rfl _ _ 22 rfl w.heap.size 2 i0 _ 1 8 Try.underlying22 ti tz0 tz1 tz2 rfl (by decide) _ (m + j) (iV (expand (rs.take k2) ++ List.replicate j x)) rfl (HW3.out.alloc _) (wi.heap.size + 1) _ 1 1 [.int .i64 x] rfl (Sl.built (by simp) (by simp) rfl) ?c1 ?c2 ?c3 ?c4 ?_)
                case c1 => intro u hu; simp at hu; subst hu; rfl
                case c2 => unfold maxLen; omega
                case c3 => omega
                case c4 => simp; omega
                intro v5 w5 hown5 hg5 hbk5
                have hbn : Below w.heap.size w w5 := below_app (by (repeat' (first | (with_reducible exact Below.refl _ _) | (with_reducible assumption) | (with_reducible refine Below.alloc ?_ ?_ _) | (with_reducible refine Below.drew ?_) | (with_reducible refine belowDrewN ?_ _) | (with_reducible refine Below.setCell ?_ ?_ _) | (with_reducible refine Below.via (by with_reducible assumption) ?_ ?_) | (with_reducible refine Below.viaD (by with_reducible assumption) ?_ ?_) | (with_reducible exact Below.size (by with_reducible assumption)) | go_size | (with_reducible refine Nat.le_trans ?_ (Below.size (by with_reducible assumption))) | (with_reducible refine Nat.le_trans ?_ (sizeAlloc _ _)) | (with_reducible refine Nat.le_trans ?_ (sizeSet _ _ _)) | (with_reducible refine Nat.le_trans ?_ (sizeDrew _))))) (HW3.out.alloc _) hg5 (Nat.le_refl _) (by simp; omega)
                have HW5 : Hid (w5.ownsRow w.heap.size 2 1 v5 (m + (j + 1)) (iV (expand (rs.take k2) ++ List.replicate (j + 1) x))) := by unfold Hid; rw [HR.out, iV_app]; exact hown5
                clear hown5 hg5 hbk5
                go_wp2_with fail
                go_roundw
                case rel => exact ⟨j + 1, by omega, by go_num, HW5.out, hbn⟩
                case measure => first | (simp [intOf]; done) | (simp [intOf]; omega)
              case neg =>
                obtain rfl : j = tn := by omega
                have HM2 : Hid (m + j = (expand (rs.take (k2 + 1))).length) := by unfold Hid; rw [HE.out, HT.out, List.length_append, List.length_replicate, ← HM.out]
                have hE2 := HE.out
                rw [HT.out] at hE2
                have hw6 := HW3.out
                rw [← hE2] at hw6
                have HW6 := Lib.hid hw6
                clear hw6 hE2
                clear HW3
                have hx1 : wi.cell? ⟨b, off + k2 * 2 + 1, none⟩ = some (.int .i64 j) := by
                  obtain ⟨b9, off9, x9, t9, e9, hb9, HX9, h0, h1⟩ := run_cells HS.out hb3 HL.out hlt
                  injection e9 with e9
                  injection e9 with e1 e2
                  subst e1 e2
                  have h := HX9.out.symm.trans HX.out
                  injection h with h2 h3
                  subst h2 h3
                  exact h1
                go_wp2_with fail
                go_roundw
                case rel => exact ⟨k2 + 1, m + j, by omega, by go_num, HM2.out, by omega, HW6.out, hb3⟩
                case measure => first | (simp [intOf]; done) | (simp [intOf]; omega)
        case neg =>
          obtain rfl : k2 = k := by omega
          have HT : Hid (rs.take k2 = rs) := List.take_of_length_le (by rw [HL.out]; exact Nat.le_refl _)
          have hM := HM.out
          rw [HT.out] at hown hM
          have HY := Lib.hid (fromRuns_done HOK.out (by rw [← hM]; exact hm4))
          have HW := Lib.hid hown
          have HMM := Lib.hid hM
          clear hown hM
          go_wp2_with fail
          go_ret2
          exact FromPost.good HY.out (by rw [← HMM.out]; exact HW.out) hb2
end Go.Proofs.Ytbaimfmepidjcaa
