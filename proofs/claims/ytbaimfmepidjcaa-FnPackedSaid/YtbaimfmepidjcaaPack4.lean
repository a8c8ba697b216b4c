/- Runs of lists, by both functions. Conditions: lists below 2^20. -/
import Derived.Test.YtbaimfmepidjcaaPack1
import Derived.Test.YtbaimfmepidjcaaLists
namespace Go.Proofs.Ytbaimfmepidjcaa
set_option linter.unusedSimpArgs false
set_option linter.unusedVariables false
open Go.RowKit Go.WideShapes

def rV (rs : List (Int × Int)) : List Value := rs.flatMap fun r => [.int .i64 r.1, .int .i64 r.2]
theorem rV_nil : rV [] = [] := rfl
theorem rV_app (a b : List (Int × Int)) : rV (a ++ b) = rV a ++ rV b := List.flatMap_append
theorem rV_len (rs : List (Int × Int)) : (rV rs).length = rs.length * 2 := by
  induction rs with
  | nil => rfl
  | cons r rs ih => rw [rV, List.flatMap_cons, List.length_append, List.length_cons, ← rV, ih]; simp; omega
theorem rV_snoc (rs : List (Int × Int)) (v t : Int) : rV (rs ++ [(v, t)]) = rV rs ++ [.int .i64 v, .int .i64 t] := by rw [rV_app]; rfl
theorem rV_last0 (rs : List (Int × Int)) (v t : Int) : (rV (rs ++ [(v, t)]))[rs.length * 2]? = some (.int .i64 v) := by
  rw [rV_snoc, List.getElem?_append_right (by rw [rV_len]; omega), rV_len, Nat.sub_self]; rfl
theorem rV_last1 (rs : List (Int × Int)) (v t : Int) : (rV (rs ++ [(v, t)]))[rs.length * 2 + 1]? = some (.int .i64 t) := by
  rw [rV_snoc, List.getElem?_append_right (by rw [rV_len]; omega), rV_len, Nat.add_sub_cancel_left]; rfl
theorem rV_set (rs : List (Int × Int)) (v t u : Int) : (rV (rs ++ [(v, t)])).set (rs.length * 2 + 1) (.int .i64 u) = rV (rs ++ [(v, u)]) := by
  rw [rV_snoc, rV_snoc, List.set_append_right _ _ (by rw [rV_len]; omega), rV_len, Nat.add_sub_cancel_left]; rfl
theorem rV_at {rs : List (Int × Int)} {j : Nat} (h : j < rs.length) : (rV rs)[j * 2]? = some (.int .i64 (rs.getD j (0, 0)).1) ∧ (rV rs)[j * 2 + 1]? = some (.int .i64 (rs.getD j (0, 0)).2) := by
  induction rs generalizing j with
  | nil => simp at h
  | cons r rs ih =>
    cases j with
    | zero => exact ⟨rfl, rfl⟩
    | succ j =>
      have := ih (j := j) (by simpa using h)
      rw [List.getD_cons_succ]
      have e1 : (j + 1) * 2 = j * 2 + 2 := by omega
      rw [e1]
      exact this
theorem addRun_nil (x : Int) : addRun [] x = [(x, 1)] := rfl
theorem addRun_same (rs : List (Int × Int)) (x t : Int) : addRun (rs ++ [(x, t)]) x = rs ++ [(x, t + 1)] := by
  simp [addRun]
theorem addRun_new (rs : List (Int × Int)) {v x t : Int} (h : v ≠ x) : addRun (rs ++ [(v, t)]) x = rs ++ [(v, t)] ++ [(x, 1)] := by
  simp [addRun, h]
theorem info_Run : (Try.prog.info? 37).map (fun i => (i.zero, i.size, i.bytes)) = some (some (.agg #[Value.int .i64 0, .int .i64 0]), 2, 16) := by kernel_rfl
/-- A row of runs of the call's own is the result. -/
def RunsPost (rs : List (Int × Int)) (w : World) (e : Ending) (w' : World) : Prop := ∃ v, e = .returned v ∧ w'.ownsRow w.heap.size 37 2 v rs.length (rV rs) ∧ Below w.heap.size w w'
/-- What RunsOf returns. -/
def RunsOfPost (zs : List Int) (w : World) (e : Ending) (w' : World) : Prop := (okItems zs = true → ∃ v, e = .returned (.tuple #[v, .int .i64 0]) ∧ w'.ownsRow w.heap.size 37 2 v (runsL zs).length (rV (runsL zs))) ∧ (okItems zs = false → e = .returned (.tuple #[.slice none 0 0, .int .i64 2])) ∧ Below w.heap.size w w'

theorem ownsRow_drewN {w : World} {base : Nat} {e : TypeId} {size : Nat} {v : Value} {n : Nat} {xs : List Value} (h : w.ownsRow base e size v n xs) (k : Nat) : (w.drewN k).ownsRow base e size v n xs := h
set_option maxRecDepth 100000 in
set_option maxHeartbeats 4000000 in
theorem RunsOf_any (A : Option Addr) (n c : Nat) (zs : List Int) (w : World) (hs : Sl w w.heap.size 1 A n (zs.map (Value.int .i64))) (hn : n ≤ 1048576) : Calls Try.prog 13 #[.slice A n c] w (RunsOfPost zs w) := by
  obtain ⟨i0, ti, tz0, tz1, tz2⟩ := info_parts info_Run
  have HL := Lib.hid hs.ints
  have HG : Hid (∀ k, GoodRuns (zs.take k) (runsL (zs.take k))) := fun k => good_runs _
  have HX : Hid (∀ k z, k < n → zs.getD k 0 = z → runsL (zs.take (k + 1)) = addRun (runsL (zs.take k)) z) := fun k z hk hz => by
    rw [take_succ_getD 0 (by rw [HL.out]; exact hk), hz, runsL_snoc]
  have HS := Lib.hid hs
  clear hs
  go_enter Try.func13, Try.ntmps13
  go_wp2
  go_loopw [4, 11] (fun v i wr => ∃ (k : Nat) (rs : List (Int × Int)), k ≤ n ∧ i = .int .i64 k ∧ Hid (runsL (zs.take k) = rs) ∧ Hid ((zs.take k).all isItemR = true) ∧ wr.ownsRow w.heap.size 37 2 v rs.length (rV rs) ∧ Below w.heap.size w wr) (fun _ i _ => n - (intOf i).toNat)
  case atStart => exact ⟨0, [], Nat.zero_le _, rfl, rfl, rfl, World.ownsRow_made _ _ 0 (Nat.le_refl _) (Nat.zero_le _) rfl, by (repeat' (first | (with_reducible exact Below.refl _ _) | (with_reducible assumption) | (with_reducible refine Below.alloc ?_ ?_ _) | (with_reducible refine Below.drew ?_) | (with_reducible refine belowDrewN ?_ _) | (with_reducible refine Below.setCell ?_ ?_ _) | (with_reducible refine Below.via (by with_reducible assumption) ?_ ?_) | (with_reducible refine Below.viaD (by with_reducible assumption) ?_ ?_) | (with_reducible exact Below.size (by with_reducible assumption)) | go_size | (with_reducible refine Nat.le_trans ?_ (Below.size (by with_reducible assumption))) | (with_reducible refine Nat.le_trans ?_ (sizeAlloc _ _)) | (with_reducible refine Nat.le_trans ?_ (sizeSet _ _ _)) | (with_reducible refine Nat.le_trans ?_ (sizeDrew _))))⟩
  case round =>
    obtain ⟨k, rs, hk, rfl, HR, HA, hown, hbl⟩ := hrel
    have hbs := hbl.size
    by_cases hlt : k < n
    case pos =>
      have hg := HG.out k
      rw [HR.out] at hg
      have hrl : rs.length ≤ k := by have := hg.len; rw [List.length_take] at this; omega
      obtain ⟨b, off, z, rfl, hb', HZ, hc⟩ := (HS.out.later hbl).int hlt
      have HN : Hid (runsL (zs.take (k + 1)) = addRun rs z) := by unfold Hid; rw [HX.out k z hlt HZ.out, HR.out]
      have HA2 : Hid (isItemR z = true → (zs.take (k + 1)).all isItemR = true) := fun hz => by
        rw [take_succ_getD 0 (by rw [HL.out]; exact hlt), List.all_append, HA.out, HZ.out]; simp [hz]
      have HF : Hid (isItemR z = false → okItems zs = false) := fun hz => by
        rw [okItems, all_false (k := k) (d := 0) (by rw [HL.out]; exact hlt) (by rw [HZ.out]; exact hz)]; rfl
      obtain ⟨qz, hqz⟩ : ∃ q, isItemR z = q := ⟨_, rfl⟩
      have HQ := Lib.hid hqz
      clear hqz
      cases qz
      case false =>
        have hno := HF.out HQ.out
        clear hown hg
        go_wp2_with (go_at_call 29; refine (isItem_any _ _).mono ?_; rintro e w_ ⟨rfl, rfl⟩; rw [HQ.out])
        go_ret2
        exact ⟨fun h => absurd (h.symm.trans hno) (by decide), fun _ => rfl, by (repeat' (first | (with_reducible exact Below.refl _ _) | (with_reducible assumption) | (with_reducible refine Below.alloc ?_ ?_ _) | (with_reducible refine Below.drew ?_) | (with_reducible refine belowDrewN ?_ _) | (with_reducible refine Below.setCell ?_ ?_ _) | (with_reducible refine Below.via (by with_reducible assumption) ?_ ?_) | (with_reducible refine Below.viaD (by with_reducible assumption) ?_ ?_) | (with_reducible exact Below.size (by with_reducible assumption)) | go_size | (with_reducible refine Nat.le_trans ?_ (Below.size (by with_reducible assumption))) | (with_reducible refine Nat.le_trans ?_ (sizeAlloc _ _)) | (with_reducible refine Nat.le_trans ?_ (sizeSet _ _ _)) | (with_reducible refine Nat.le_trans ?_ (sizeDrew _))))⟩
      case true =>
        have HA3 := Lib.hid (HA2.out HQ.out)
        clear HA2 HF HA
        rcases List.eq_nil_or_concat rs with rfl | ⟨rs', ⟨v0, t0⟩, rfl⟩
        case inl =>
          have hown0 : wr.ownsRow w.heap.size 37 2 _ 0 (rV []) := hown
          obtain ⟨A', g, cap, rfl, hgb, hqc, hcm, hov⟩ := own_of_row hown0
          have HW := Lib.hid hown0
          clear hown hown0 hov
          clear hg
          go_wp2_with (first | (go_at_call 29; refine (isItem_any _ _).mono ?_; rintro e w_ ⟨rfl, rfl⟩; rw [HQ.out]) | (at_builtin; refine wpList_append_sl _ rfl _ _ 31 rfl w.heap.size 37 i0 _ 2 16 Try.underlying31 ti tz0 tz1 tz2 rfl (by decide) _ 0 (rV []) rfl (HW.out.alloc _) (wr.heap.size + 1) _ 1 1 [.int .i64 z, .int .i64 1] rfl (Sl.built (by simp) (by simp) rfl) ?c1 ?c2 ?c3 ?c4 ?_))
          case c1 => intro u hu; simp at hu; rcases hu with rfl | rfl <;> rfl
          case c2 => unfold maxLen; omega
          case c3 => omega
          case c4 => simp; omega
          intro v' w3 hown3 hg3 _
          have hbn : Below w.heap.size w w3 := below_app (by (repeat' (first | (with_reducible exact Below.refl _ _) | (with_reducible assumption) | (with_reducible refine Below.alloc ?_ ?_ _) | (with_reducible refine Below.drew ?_) | (with_reducible refine belowDrewN ?_ _) | (with_reducible refine Below.setCell ?_ ?_ _) | (with_reducible refine Below.via (by with_reducible assumption) ?_ ?_) | (with_reducible refine Below.viaD (by with_reducible assumption) ?_ ?_) | (with_reducible exact Below.size (by with_reducible assumption)) | go_size | (with_reducible refine Nat.le_trans ?_ (Below.size (by with_reducible assumption))) | (with_reducible refine Nat.le_trans ?_ (sizeAlloc _ _)) | (with_reducible refine Nat.le_trans ?_ (sizeSet _ _ _)) | (with_reducible refine Nat.le_trans ?_ (sizeDrew _))))) (HW.out.alloc _) hg3 (Nat.le_refl _) (by simp; omega)
          have HW3 := Lib.hid hown3
          clear hown3 hg3
          go_wp2_with fail
          go_roundw
          case rel => exact ⟨k + 1, [(z, 1)], by omega, by go_num, by unfold Hid; rw [HN.out, addRun_nil], HA3, by rw [show rV [(z, (1 : Int))] = rV [] ++ [.int .i64 z, .int .i64 1] from rfl]; exact HW3.out, hbn⟩
          case measure => first | (simp [intOf]; done) | (simp [intOf]; omega)
        case inr =>
          rw [List.concat_eq_append] at hown HN hg HR hrl
          have ht := hg.pos (v0, t0) (by simp)
          simp only [List.length_take] at ht
          have ht2 : t0 ≤ 1048576 := by have := Nat.min_le_left k zs.length; omega
          have ht1 : 1 ≤ t0 := ht.1
          clear ht
          rw [List.length_append, List.length_singleton] at hown hrl
          obtain ⟨m, hm⟩ : ∃ m, rs'.length = m := ⟨_, rfl⟩
          have HM := Lib.hid hm
          rw [hm] at hown hrl
          obtain ⟨A', g, cap, rfl, hgb, hqc, hcm, hov⟩ := own_of_row hown
          obtain ⟨rfl, -⟩ := hov.blk (by omega)
          have hgl := hov.lt (by omega)
          have k0 : wr.cell? ⟨g, m * 2, none⟩ = some (.int .i64 v0) := by rw [hown.cellAt _ (by omega), ← hm]; exact rV_last0 _ _ _
          have k1 : wr.cell? ⟨g, m * 2 + 1, none⟩ = some (.int .i64 t0) := by rw [hown.cellAt _ (by omega), ← hm]; exact rV_last1 _ _ _
          have f1 := hown.frozenAt (m * 2 + 1)
          have HW := Lib.hid hown
          clear hown hov hm
          have i0' : (0 : Int) ≤ (m : Int) := by omega
          have i1' : (m : Int) < ((m + 1 : Nat) : Int) := by omega
          by_cases hvz : v0 = z
          case pos =>
            subst hvz
            have HS2 := Lib.hid (HW.out.stored (m * 2 + 1) (.int .i64 (t0 + 1))).1
            have HG2 := Lib.hid (HW.out.stored (m * 2 + 1) (.int .i64 (t0 + 1))).2
            clear hg
            go_wp2_with (go_at_call 29; refine (isItem_any _ _).mono ?_; rintro e w_ ⟨rfl, rfl⟩; rw [HQ.out])
            go_roundw
            case rel => exact ⟨k + 1, rs' ++ [(v0, t0 + 1)], by omega, by go_num, by unfold Hid; rw [HN.out, addRun_same], HA3, by rw [List.length_append, List.length_singleton, HM.out, ← rV_set rs' v0 t0, HM.out]; exact HS2.out, grown_below hbl HG2.out hgb (by omega)⟩
            case measure => first | (simp [intOf]; done) | (simp [intOf]; omega)
          case neg =>
            have hvb : (v0 == z) = false := beq_eq_false_iff_ne.2 hvz
            clear hg
            go_wp2_with (first | (go_at_call 29; refine (isItem_any _ _).mono ?_; rintro e w_ ⟨rfl, rfl⟩; rw [HQ.out]) | (at_builtin; refine wpList_append_sl _ rfl _ _ 31 rfl w.heap.size 37 i0 _ 2 16 Try.underlying31 ti tz0 tz1 tz2 rfl (by decide) _ (m + 1) (rV (rs' ++ [(v0, t0)])) rfl (HW.out.alloc _) (wr.heap.size + 1) _ 1 1 [.int .i64 z, .int .i64 1] rfl (Sl.built (by simp) (by simp) rfl) ?c1 ?c2 ?c3 ?c4 ?_))
            case c1 => intro u hu; simp at hu; rcases hu with rfl | rfl <;> rfl
            case c2 => unfold maxLen; omega
            case c3 => omega
            case c4 => simp; omega
            intro v' w3 hown3 hg3 _
            have hbn : Below w.heap.size w w3 := below_app (by (repeat' (first | (with_reducible exact Below.refl _ _) | (with_reducible assumption) | (with_reducible refine Below.alloc ?_ ?_ _) | (with_reducible refine Below.drew ?_) | (with_reducible refine belowDrewN ?_ _) | (with_reducible refine Below.setCell ?_ ?_ _) | (with_reducible refine Below.via (by with_reducible assumption) ?_ ?_) | (with_reducible refine Below.viaD (by with_reducible assumption) ?_ ?_) | (with_reducible exact Below.size (by with_reducible assumption)) | go_size | (with_reducible refine Nat.le_trans ?_ (Below.size (by with_reducible assumption))) | (with_reducible refine Nat.le_trans ?_ (sizeAlloc _ _)) | (with_reducible refine Nat.le_trans ?_ (sizeSet _ _ _)) | (with_reducible refine Nat.le_trans ?_ (sizeDrew _))))) (HW.out.alloc _) hg3 (Nat.le_refl _) (by simp; omega)
            have HW3 := Lib.hid hown3
            clear hown3 hg3
            go_wp2_with fail
            go_roundw
            case rel => exact ⟨k + 1, rs' ++ [(v0, t0)] ++ [(z, 1)], by omega, by go_num, by unfold Hid; rw [HN.out, addRun_new _ hvz], HA3, by rw [rV_snoc (rs' ++ [(v0, t0)]), List.length_append, List.length_append, List.length_singleton, List.length_singleton, HM.out]; exact HW3.out, hbn⟩
            case measure => first | (simp [intOf]; done) | (simp [intOf]; omega)
    case neg =>
      obtain rfl : k = n := by omega
      have HT : Hid (zs.take k = zs) := List.take_of_length_le (by rw [HL.out]; exact Nat.le_refl _)
      rw [HT.out] at HR HA
      have hl := HL.out
      have HO : Hid (okItems zs = decide (k ≤ 4000)) := by unfold Hid; rw [okItems, HA.out, HL.out]; rfl
      have HW := Lib.hid hown
      clear hown hl
      by_cases h4 : k ≤ 4000
      case pos =>
        have h5 := HO.out.trans (decide_eq_true h4)
        go_wp2_with fail
        go_ret2
        exact ⟨fun _ => ⟨_, rfl, by rw [HR.out]; exact HW.out⟩, fun h => absurd (h.symm.trans h5) (by decide), hbl⟩
      case neg =>
        have h5 := HO.out.trans (decide_eq_false h4)
        go_wp2_with fail
        go_ret2
        exact ⟨fun h => absurd (h.symm.trans h5) (by decide), fun _ => rfl, hbl⟩
set_option maxRecDepth 100000 in
set_option maxHeartbeats 4000000 in
theorem l14Runs_any (A : Option Addr) (n c : Nat) (zs : List Int) (w : World) (hs : Sl w w.heap.size 1 A n (zs.map (Value.int .i64))) (hn : n ≤ 1048576) : Calls Try.prog 37 #[.slice A n c] w (RunsPost (runsL zs) w) := by
  obtain ⟨i0, ti, tz0, tz1, tz2⟩ := info_parts info_Run
  have HL := Lib.hid hs.ints
  have HG : Hid (∀ k, GoodRuns (zs.take k) (runsL (zs.take k))) := fun k => good_runs _
  have HX : Hid (∀ k z, k < n → zs.getD k 0 = z → runsL (zs.take (k + 1)) = addRun (runsL (zs.take k)) z) := fun k z hk hz => by
    rw [take_succ_getD 0 (by rw [HL.out]; exact hk), hz, runsL_snoc]
  have HS := Lib.hid hs
  clear hs
  go_enter Try.func37, Try.ntmps37
  go_wp2
  go_loopw [3, 4] (fun v i wr => ∃ (k : Nat) (rs : List (Int × Int)), k ≤ n ∧ i = .int .i64 k ∧ Hid (runsL (zs.take k) = rs) ∧ wr.ownsRow w.heap.size 37 2 v rs.length (rV rs) ∧ Below w.heap.size w wr) (fun _ i _ => n - (intOf i).toNat)
  case atStart => exact ⟨0, [], Nat.zero_le _, rfl, rfl, World.ownsRow_made _ _ 0 (Nat.le_refl _) (Nat.zero_le _) rfl, by (repeat' (first | (with_reducible exact Below.refl _ _) | (with_reducible assumption) | (with_reducible refine Below.alloc ?_ ?_ _) | (with_reducible refine Below.drew ?_) | (with_reducible refine belowDrewN ?_ _) | (with_reducible refine Below.setCell ?_ ?_ _) | (with_reducible refine Below.via (by with_reducible assumption) ?_ ?_) | (with_reducible refine Below.viaD (by with_reducible assumption) ?_ ?_) | (with_reducible exact Below.size (by with_reducible assumption)) | go_size | (with_reducible refine Nat.le_trans ?_ (Below.size (by with_reducible assumption))) | (with_reducible refine Nat.le_trans ?_ (sizeAlloc _ _)) | (with_reducible refine Nat.le_trans ?_ (sizeSet _ _ _)) | (with_reducible refine Nat.le_trans ?_ (sizeDrew _))))⟩
  case round =>
    obtain ⟨k, rs, hk, rfl, HR, hown, hbl⟩ := hrel
    have hbs := hbl.size
    by_cases hlt : k < n
    case pos =>
      have hg := HG.out k
      rw [HR.out] at hg
      have hrl : rs.length ≤ k := by have := hg.len; rw [List.length_take] at this; omega
      obtain ⟨b, off, z, rfl, hb', HZ, hc⟩ := (HS.out.later hbl).int hlt
      have HN : Hid (runsL (zs.take (k + 1)) = addRun rs z) := by unfold Hid; rw [HX.out k z hlt HZ.out, HR.out]
      rcases List.eq_nil_or_concat rs with rfl | ⟨rs', ⟨v0, t0⟩, rfl⟩
      case inl =>
        have hown0 : wr.ownsRow w.heap.size 37 2 _ 0 (rV []) := hown
        obtain ⟨A', g, cap, rfl, hgb, hqc, hcm, hov⟩ := own_of_row hown0
        have HW := Lib.hid hown0
        clear hown hown0 hov
        clear hg
        go_wp2_with fail
        first | (refine wp_region_quiet_lit (by kernel_rfl) (by kernel_rfl) ?_; refine WQ.of ?_; (repeat (refine WQ.step (fun K hK => ?_); go_simp; first | (refine hK _ ?_; clear hK K) | (apply Exists.intro; refine ⟨fun _ => ?_, hK _ ?_⟩; (fail); clear hK K))); refine WQ.nil ?_; intro _ hw'; obtain ⟨nq, hw''⟩ := hw'; subst hw'') | go_quiet (fail)
        go_wp2_with (at_builtin; refine wpList_append_sl _ rfl _ _ 31 rfl w.heap.size 37 i0 _ 2 16 Try.underlying31 ti tz0 tz1 tz2 rfl (by decide) _ 0 (rV []) rfl ((ownsRow_drewN HW.out _).alloc _) (wr.heap.size + 1) _ 1 1 [.int .i64 z, .int .i64 1] rfl (Sl.built (by simp) (by simp) rfl) ?c1 ?c2 ?c3 ?c4 ?_)
        case c1 => intro u hu; simp at hu; rcases hu with rfl | rfl <;> rfl
        case c2 => unfold maxLen; omega
        case c3 => omega
        case c4 => simp; omega
        intro v' w3 hown3 hg3 _
        have hbn : Below w.heap.size w w3 := below_app (by (repeat' (first | (with_reducible exact Below.refl _ _) | (with_reducible assumption) | (with_reducible refine Below.alloc ?_ ?_ _) | (with_reducible refine Below.drew ?_) | (with_reducible refine belowDrewN ?_ _) | (with_reducible refine Below.setCell ?_ ?_ _) | (with_reducible refine Below.via (by with_reducible assumption) ?_ ?_) | (with_reducible refine Below.viaD (by with_reducible assumption) ?_ ?_) | (with_reducible exact Below.size (by with_reducible assumption)) | go_size | (with_reducible refine Nat.le_trans ?_ (Below.size (by with_reducible assumption))) | (with_reducible refine Nat.le_trans ?_ (sizeAlloc _ _)) | (with_reducible refine Nat.le_trans ?_ (sizeSet _ _ _)) | (with_reducible refine Nat.le_trans ?_ (sizeDrew _))))) ((ownsRow_drewN HW.out _).alloc _) hg3 (Nat.le_refl _) (by simp; omega)
        have HW3 := Lib.hid hown3
        clear hown3 hg3
        go_wp2_with fail
        go_roundw
        case rel => exact ⟨k + 1, [(z, 1)], by omega, by go_num, by unfold Hid; rw [HN.out, addRun_nil], by rw [show rV [(z, (1 : Int))] = rV [] ++ [.int .i64 z, .int .i64 1] from rfl]; exact HW3.out, hbn⟩
        case measure => first | (simp [intOf]; done) | (simp [intOf]; omega)
      case inr =>
        rw [List.concat_eq_append] at hown HN hg HR hrl
        have ht := hg.pos (v0, t0) (by simp)
        simp only [List.length_take] at ht
        have ht2 : t0 ≤ 1048576 := by have := Nat.min_le_left k zs.length; omega
        have ht1 : 1 ≤ t0 := ht.1
        clear ht
        rw [List.length_append, List.length_singleton] at hown hrl
        obtain ⟨m, hm⟩ : ∃ m, rs'.length = m := ⟨_, rfl⟩
        have HM := Lib.hid hm
        rw [hm] at hown hrl
        obtain ⟨A', g, cap, rfl, hgb, hqc, hcm, hov⟩ := own_of_row hown
        obtain ⟨rfl, -⟩ := hov.blk (by omega)
        have hgl := hov.lt (by omega)
        have k0 : wr.cell? ⟨g, m * 2, none⟩ = some (.int .i64 v0) := by rw [hown.cellAt _ (by omega), ← hm]; exact rV_last0 _ _ _
        have k1 : wr.cell? ⟨g, m * 2 + 1, none⟩ = some (.int .i64 t0) := by rw [hown.cellAt _ (by omega), ← hm]; exact rV_last1 _ _ _
        have f1 := hown.frozenAt (m * 2 + 1)
        have HW := Lib.hid hown
        clear hown hov hm
        have i0' : (0 : Int) ≤ (m : Int) := by omega
        have i1' : (m : Int) < ((m + 1 : Nat) : Int) := by omega
        by_cases hvz : v0 = z
        case pos =>
          subst hvz
          have HS2 := Lib.hid (HW.out.stored (m * 2 + 1) (.int .i64 (t0 + 1))).1
          have HG2 := Lib.hid (HW.out.stored (m * 2 + 1) (.int .i64 (t0 + 1))).2
          clear hg
          go_wp2_with fail
          first | (refine wp_region_quiet_lit (by kernel_rfl) (by kernel_rfl) ?_; refine WQ.of ?_; (repeat (refine WQ.step (fun K hK => ?_); go_simp; first | (refine hK _ ?_; clear hK K) | (apply Exists.intro; refine ⟨fun _ => ?_, hK _ ?_⟩; (fail); clear hK K))); refine WQ.nil ?_; intro _ hw'; obtain ⟨nq, hw''⟩ := hw'; subst hw'') | go_quiet (fail)
          go_wp2_with fail
          go_roundw
          case rel => exact ⟨k + 1, rs' ++ [(v0, t0 + 1)], by omega, by go_num, by unfold Hid; rw [HN.out, addRun_same], by rw [List.length_append, List.length_singleton, HM.out, ← rV_set rs' v0 t0, HM.out]; exact ((ownsRow_drewN HW.out _).stored (m * 2 + 1) (.int .i64 (t0 + 1))).1, grown_below (belowDrewN hbl _) ((ownsRow_drewN HW.out _).stored (m * 2 + 1) (.int .i64 (t0 + 1))).2 hgb (by simp; omega)⟩
          case measure => first | (simp [intOf]; done) | (simp [intOf]; omega)
        case neg =>
          have hvb : (v0 == z) = false := beq_eq_false_iff_ne.2 hvz
          clear hg
          go_wp2_with fail
          first | (refine wp_region_quiet_lit (by kernel_rfl) (by kernel_rfl) ?_; refine WQ.of ?_; (repeat (refine WQ.step (fun K hK => ?_); go_simp; first | (refine hK _ ?_; clear hK K) | (apply Exists.intro; refine ⟨fun _ => ?_, hK _ ?_⟩; (fail); clear hK K))); refine WQ.nil ?_; intro _ hw'; obtain ⟨nq, hw''⟩ := hw'; subst hw'') | go_quiet (fail)
          go_wp2_with (at_builtin; refine wpList_append_sl _ rfl _ _ 31 rfl w.heap.size 37 i0 _ 2 16 Try.underlying31 ti tz0 tz1 tz2 rfl (by decide) _ (m + 1) (rV (rs' ++ [(v0, t0)])) rfl ((ownsRow_drewN HW.out _).alloc _) (wr.heap.size + 1) _ 1 1 [.int .i64 z, .int .i64 1] rfl (Sl.built (by simp) (by simp) rfl) ?c1 ?c2 ?c3 ?c4 ?_)
          case c1 => intro u hu; simp at hu; rcases hu with rfl | rfl <;> rfl
          case c2 => unfold maxLen; omega
          case c3 => omega
          case c4 => simp; omega
          intro v' w3 hown3 hg3 _
          have hbn : Below w.heap.size w w3 := below_app (by (repeat' (first | (with_reducible exact Below.refl _ _) | (with_reducible assumption) | (with_reducible refine Below.alloc ?_ ?_ _) | (with_reducible refine Below.drew ?_) | (with_reducible refine belowDrewN ?_ _) | (with_reducible refine Below.setCell ?_ ?_ _) | (with_reducible refine Below.via (by with_reducible assumption) ?_ ?_) | (with_reducible refine Below.viaD (by with_reducible assumption) ?_ ?_) | (with_reducible exact Below.size (by with_reducible assumption)) | go_size | (with_reducible refine Nat.le_trans ?_ (Below.size (by with_reducible assumption))) | (with_reducible refine Nat.le_trans ?_ (sizeAlloc _ _)) | (with_reducible refine Nat.le_trans ?_ (sizeSet _ _ _)) | (with_reducible refine Nat.le_trans ?_ (sizeDrew _))))) ((ownsRow_drewN HW.out _).alloc _) hg3 (Nat.le_refl _) (by simp; omega)
          have HW3 := Lib.hid hown3
          clear hown3 hg3
          go_wp2_with fail
          go_roundw
          case rel => exact ⟨k + 1, rs' ++ [(v0, t0)] ++ [(z, 1)], by omega, by go_num, by unfold Hid; rw [HN.out, addRun_new _ hvz], by rw [rV_snoc (rs' ++ [(v0, t0)]), List.length_append, List.length_append, List.length_singleton, List.length_singleton, HM.out]; exact HW3.out, hbn⟩
          case measure => first | (simp [intOf]; done) | (simp [intOf]; omega)
    case neg =>
      obtain rfl : k = n := by omega
      have HT : Hid (zs.take k = zs) := List.take_of_length_le (by rw [HL.out]; exact Nat.le_refl _)
      rw [HT.out] at HR
      have HW := Lib.hid hown
      clear hown
      go_wp2_with fail
      go_ret
      exact ⟨_, rfl, by rw [HR.out]; exact HW.out, hbl⟩
set_option maxHeartbeats 1000000 in
theorem l14Ok_any (A : Option Addr) (n c : Nat) (zs : List Int) (w : World) (hs : Sl w w.heap.size 1 A n (zs.map (Value.int .i64))) (hn : n ≤ 1048576) : Calls Try.prog 24 #[.slice A n c] w fun e w' => e = .returned (.bool (okItems zs)) ∧ w = w' := by
  have HL := Lib.hid hs.ints
  go_enter Try.func24, Try.ntmps24
  go_wp2
  go_loop [3] (fun i => ∃ k : Nat, k ≤ n ∧ i = .int .i64 k ∧ Hid (∀ j, j < k → isItemR (zs.getD j 0) = true)) (fun i => n - (intOf i).toNat)
  case atStart => exact ⟨0, Nat.zero_le _, rfl, fun j hj => absurd hj (by omega)⟩
  case round =>
    obtain ⟨k, hk, rfl, hpre⟩ := hrel
    by_cases hlt : k < n
    · obtain ⟨b, off, z, rfl, hb', HZ, hc⟩ := hs.int hlt
      obtain ⟨qz, hqz⟩ : ∃ q, isItemR z = q := ⟨_, rfl⟩
      have HQ := Lib.hid hqz
      clear hqz
      cases qz
      · have hno : okItems zs = false := by rw [okItems, all_false (k := k) (d := 0) (by rw [HL.out]; exact hlt) (by rw [HZ.out]; exact HQ.out)]; rfl
        have HNO := Lib.hid hno
        clear hno
        go_wp2_with (go_at_call 36; refine (l14Item_any _ _).mono ?_; rintro e w_ ⟨rfl, rfl⟩; rw [HQ.out])
        go_ret
        exact ⟨by rw [HNO.out]; rfl, rfl⟩
      · go_wp2_with (go_at_call 36; refine (l14Item_any _ _).mono ?_; rintro e w_ ⟨rfl, rfl⟩; rw [HQ.out])
        go_round
        case rel =>
          refine ⟨k + 1, by omega, by go_num, fun j hj => ?_⟩
          rcases Nat.lt_or_ge j k with h | h
          · exact hpre.out j h
          · obtain rfl : j = k := by omega
            rw [HZ.out]; exact HQ.out
        case measure => first | (simp [intOf]; done) | (simp [intOf]; omega)
    · obtain rfl : k = n := by omega
      have HO : Hid (okItems zs = decide (((k : Nat) : Int) ≤ 4000)) := by
        unfold Hid
        rw [okItems, all_true (d := 0) (fun j hj => hpre.out j (by rw [← HL.out]; exact hj)), HL.out, Bool.true_and]
        congr 1
        apply propext
        omega
      go_wp2
      go_ret
      exact ⟨by rw [HO.out]; rfl, rfl⟩
end Go.Proofs.Ytbaimfmepidjcaa
