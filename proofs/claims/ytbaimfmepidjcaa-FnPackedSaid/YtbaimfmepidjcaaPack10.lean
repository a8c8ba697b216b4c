/- Bytes read back as lists, by the reference. Conditions: texts below 2^20. -/
import Derived.Test.YtbaimfmepidjcaaPack9
namespace Go.Proofs.Ytbaimfmepidjcaa
set_option linter.unusedSimpArgs false
set_option linter.unusedVariables false
open Go.RowKit Go.WideShapes

theorem drop_end (s : ByteArray) : s.data.toList.drop s.size = [] := List.drop_eq_nil_of_le (by simp)
theorem drop_ne (s : ByteArray) {a : Nat} (h : a < s.size) : s.data.toList.drop a ≠ [] := fun hc => by
  have := dropLen s a
  rw [hc] at this
  simp at this
  omega
set_option maxRecDepth 100000 in
set_option maxHeartbeats 8000000 in
theorem l14Unpack_any (s : ByteArray) (w : World) (hs : s.size ≤ 1048576) : Calls Try.prog 35 #[.string s] w (UnPost (unpackS s.data.toList) w) := by
  obtain ⟨i0, ti, tz0, tz1, tz2⟩ := info_parts info_Run
  have HG := Lib.hid (fun a (W : World) (ha : a ≤ s.size) => l14Get_any s a W ha (by omega))
  have HLN := Lib.hid (dropLen s)
  have HDE := Lib.hid (drop_end s)
  have HDN := Lib.hid (fun a (h : a < s.size) => drop_ne s h)
  have hb0 : getS (s.data.toList.drop 0) = getS s.data.toList := by rw [List.drop_zero]
  have HU : Hid (unpackS s.data.toList = match getS (s.data.toList.drop 0) with | none => none | some (c, k) => match takeRuns getS c.toNat (s.data.toList.drop k) with | none => none | some (rs, r) => if r = [] then fromRuns rs else none) := by unfold Hid; rw [hb0]; rfl
  obtain ⟨R, hR⟩ : ∃ R, unpackS s.data.toList = R := ⟨_, rfl⟩
  rw [hR] at HU ⊢
  clear hR hb0
  cases hg : getS (s.data.toList.drop 0) with
  | none =>
    have hno : R = none := by rw [HU.out, hg]
    subst hno
    have HGG := Lib.hid hg
    clear hg HU
    go_enter Try.func35, Try.ntmps35
    go_wp2_with fail
    refine (HG.out 0 _ (Nat.zero_le _)).mono ?_
    rw [HGG.out]
    rintro e w1 ⟨⟨x, y, rfl⟩, rfl⟩
    go_wp2_with fail
    go_loopw [6, 7, 8] (fun ok v i wr => ok = .bool false ∧ i = .int .i64 0 ∧ Below w.heap.size w wr) (fun _ _ _ _ => 0)
    case atStart => exact ⟨rfl, rfl, by (repeat' (first | (with_reducible exact Below.refl _ _) | (with_reducible assumption) | (with_reducible refine Below.alloc ?_ ?_ _) | (with_reducible refine Below.drew ?_) | (with_reducible refine belowDrewN ?_ _) | (with_reducible refine Below.setCell ?_ ?_ _) | (with_reducible refine Below.via (by with_reducible assumption) ?_ ?_) | (with_reducible refine Below.viaD (by with_reducible assumption) ?_ ?_) | (with_reducible exact Below.size (by with_reducible assumption)) | go_size | (with_reducible refine Nat.le_trans ?_ (Below.size (by with_reducible assumption))) | (with_reducible refine Nat.le_trans ?_ (sizeAlloc _ _)) | (with_reducible refine Nat.le_trans ?_ (sizeSet _ _ _)) | (with_reducible refine Nat.le_trans ?_ (sizeDrew _))))⟩
    case round =>
      obtain ⟨rfl, rfl, hbl⟩ := hrel
      go_wp2_with fail
      all_goals
        go_ret2
        exact UnPost.bad rfl hbl
  | some p =>
    obtain ⟨c, k⟩ := p
    have hkl := getS_len hg
    have hkl2 : k ≤ s.size := by have := HLN.out 0; omega
    have hci := hkl.2.2
    simp only [isItemR, decide_eq_true_eq] at hci
    have HGG := Lib.hid hg
    rw [hg] at HU
    simp only at HU
    clear hg hkl
    go_enter Try.func35, Try.ntmps35
    go_wp2_with fail
    refine (HG.out 0 _ (Nat.zero_le _)).mono ?_
    rw [HGG.out]
    rintro e w1 ⟨he, rfl⟩
    change e = .returned (.tuple #[.int .i64 c, .int .i64 ((0 + k : Nat) : Int), .bool true]) at he
    rw [Nat.zero_add] at he
    subst he
    go_wp2_with fail
    go_loopw [5, 6, 7, 8] (fun at_ ok v i wr => (∃ (j a : Nat) (rs : List (Int × Int)), j ≤ c.toNat ∧ i = .int .i64 j ∧ a ≤ s.size ∧ at_ = .int .i64 a ∧ ok = .bool true ∧ rs.length = j ∧ Hid (takeRuns getS c.toNat (s.data.toList.drop k) = adv rs (takeRuns getS (c.toNat - j) (s.data.toList.drop a))) ∧ wr.ownsRow w.heap.size 37 2 v j (rV rs) ∧ Below w.heap.size w wr) ∨ (∃ (j : Nat) (y : Int), i = .int .i64 j ∧ at_ = .int .i64 y ∧ ok = .bool false ∧ R = none ∧ Below w.heap.size w wr)) (fun _ _ _ i _ => c.toNat - (intOf i).toNat)
    case atStart => exact Or.inl ⟨0, k, [], Nat.zero_le _, rfl, hkl2, rfl, rfl, rfl, by unfold Hid; rw [adv_nil]; rfl, World.ownsRow_made _ _ 0 (by first | exact Nat.le_refl _ | (simp; done) | (simp; omega)) (Nat.zero_le _) rfl, by (repeat' (first | (with_reducible exact Below.refl _ _) | (with_reducible assumption) | (with_reducible refine Below.alloc ?_ ?_ _) | (with_reducible refine Below.drew ?_) | (with_reducible refine belowDrewN ?_ _) | (with_reducible refine Below.setCell ?_ ?_ _) | (with_reducible refine Below.via (by with_reducible assumption) ?_ ?_) | (with_reducible refine Below.viaD (by with_reducible assumption) ?_ ?_) | (with_reducible exact Below.size (by with_reducible assumption)) | go_size | (with_reducible refine Nat.le_trans ?_ (Below.size (by with_reducible assumption))) | (with_reducible refine Nat.le_trans ?_ (sizeAlloc _ _)) | (with_reducible refine Nat.le_trans ?_ (sizeSet _ _ _)) | (with_reducible refine Nat.le_trans ?_ (sizeDrew _))))⟩
    case round =>
      rcases hrel with ⟨j, a, rs, hj, rfl, ha, rfl, rfl, hrl, HT, hown, hbl⟩ | ⟨j, y, rfl, rfl, rfl, hno, hbl⟩
      case inr =>
        subst hno
        clear HU
        go_wp2_with fail
        all_goals
          go_ret2
          exact UnPost.bad rfl hbl
      case inl =>
        have hbs := hbl.size
        obtain ⟨A', g, cap, rfl, hgb, hqc, hcm, hov⟩ := own_of_row hown
        have HW := Lib.hid hown
        have HOV := Lib.hid hov
        clear hown hov
        by_cases hlt : (j : Int) < c
        case pos =>
          have e1 : c.toNat - j = (c.toNat - (j + 1)) + 1 := by omega
          cases hg1 : getS (s.data.toList.drop a) with
          | none =>
            have hno : R = none := by rw [HU.out, HT.out, e1, adv_bad1 hg1]
            subst hno
            have HG1 := Lib.hid hg1
            clear hg1 e1 HU HT
            go_wp2_with fail
            refine (HG.out a _ ha).mono ?_
            rw [HG1.out]
            rintro e w2 ⟨⟨x, y, rfl⟩, rfl⟩
            go_wp2_with fail
            go_ret2
            exact UnPost.bad rfl (by (repeat' (first | (with_reducible exact Below.refl _ _) | (with_reducible assumption) | (with_reducible refine Below.alloc ?_ ?_ _) | (with_reducible refine Below.drew ?_) | (with_reducible refine belowDrewN ?_ _) | (with_reducible refine Below.setCell ?_ ?_ _) | (with_reducible refine Below.via (by with_reducible assumption) ?_ ?_) | (with_reducible refine Below.viaD (by with_reducible assumption) ?_ ?_) | (with_reducible exact Below.size (by with_reducible assumption)) | go_size | (with_reducible refine Nat.le_trans ?_ (Below.size (by with_reducible assumption))) | (with_reducible refine Nat.le_trans ?_ (sizeAlloc _ _)) | (with_reducible refine Nat.le_trans ?_ (sizeSet _ _ _)) | (with_reducible refine Nat.le_trans ?_ (sizeDrew _)))))
          | some p =>
            obtain ⟨x, k1⟩ := p
            have hl1 := getS_len hg1
            have hln := HLN.out a
            have ha1 : a + k1 ≤ s.size := by omega
            have HG1 := Lib.hid hg1
            cases hg2 : getS (s.data.toList.drop (a + k1)) with
            | none =>
              have hno : R = none := by rw [HU.out, HT.out, e1, adv_bad2 hg1 (by rw [drop_drop']; exact hg2)]
              have HNO := Lib.hid hno
              have HG2 := Lib.hid hg2
              clear hg1 hg2 e1 HU HT hno hln hl1
              go_wp2_with fail
              refine (HG.out a _ ha).mono ?_
              rw [HG1.out]
              rintro e w2 ⟨he, rfl⟩
              change e = .returned (.tuple #[.int .i64 x, .int .i64 ((a + k1 : Nat) : Int), .bool true]) at he
              subst he
              go_wp2_with fail
              refine (HG.out (a + k1) _ ha1).mono ?_
              rw [HG2.out]
              rintro e w3 ⟨⟨x2, y2, rfl⟩, rfl⟩
              go_wp2_with (at_builtin; refine wpList_append_sl _ rfl _ _ 31 rfl w.heap.size 37 i0 _ 2 16 Try.underlying31 ti tz0 tz1 tz2 rfl (by decide) _ j (rV rs) rfl (HW.out.alloc _) (wr.heap.size + 1) _ 1 1 [.int .i64 x, .int .i64 x2] rfl (Sl.built (by simp) (by simp) rfl) ?c1 ?c2 ?c3 ?c4 ?_)
              case c1 => intro u hu; simp at hu; rcases hu with rfl | rfl <;> rfl
              case c2 => unfold maxLen; omega
              case c3 => omega
              case c4 => simp; omega
              intro v5 w5 hown5 hg5 _
              have hbn : Below w.heap.size w w5 := below_app (by (repeat' (first | (with_reducible exact Below.refl _ _) | (with_reducible assumption) | (with_reducible refine Below.alloc ?_ ?_ _) | (with_reducible refine Below.drew ?_) | (with_reducible refine belowDrewN ?_ _) | (with_reducible refine Below.setCell ?_ ?_ _) | (with_reducible refine Below.via (by with_reducible assumption) ?_ ?_) | (with_reducible refine Below.viaD (by with_reducible assumption) ?_ ?_) | (with_reducible exact Below.size (by with_reducible assumption)) | go_size | (with_reducible refine Nat.le_trans ?_ (Below.size (by with_reducible assumption))) | (with_reducible refine Nat.le_trans ?_ (sizeAlloc _ _)) | (with_reducible refine Nat.le_trans ?_ (sizeSet _ _ _)) | (with_reducible refine Nat.le_trans ?_ (sizeDrew _))))) (HW.out.alloc _) hg5 (Nat.le_refl _) (by simp; omega)
              clear hown5 hg5
              go_wp2_with fail
              go_roundw
              case rel => exact Or.inr ⟨j + 1, y2, by go_num, rfl, rfl, HNO.out, hbn⟩
              case measure => first | (simp [intOf]; done) | (simp [intOf]; omega)
            | some p2 =>
              obtain ⟨t, k2⟩ := p2
              have hl2 := getS_len hg2
              have hln2 := HLN.out (a + k1)
              have ha2 : a + k1 + k2 ≤ s.size := by omega
              have HT2 : Hid (takeRuns getS c.toNat (s.data.toList.drop k) = adv (rs ++ [(x, t)]) (takeRuns getS (c.toNat - (j + 1)) (s.data.toList.drop (a + k1 + k2)))) := by
                unfold Hid
                rw [HT.out, e1, adv_step hg1 (by rw [drop_drop']; exact hg2), drop_drop', drop_drop', ← Nat.add_assoc]
              have HG2 := Lib.hid hg2
              clear hg1 hg2 e1 HT hln hln2 hl1 hl2
              go_wp2_with fail
              refine (HG.out a _ ha).mono ?_
              rw [HG1.out]
              rintro e w2 ⟨he, rfl⟩
              change e = .returned (.tuple #[.int .i64 x, .int .i64 ((a + k1 : Nat) : Int), .bool true]) at he
              subst he
              go_wp2_with fail
              refine (HG.out (a + k1) _ ha1).mono ?_
              rw [HG2.out]
              rintro e w3 ⟨he, rfl⟩
              change e = .returned (.tuple #[.int .i64 t, .int .i64 ((a + k1 + k2 : Nat) : Int), .bool true]) at he
              subst he
              go_wp2_with (at_builtin; refine wpList_append_sl _ rfl _ _ 31 rfl w.heap.size 37 i0 _ 2 16 Try.underlying31 ti tz0 tz1 tz2 rfl (by decide) _ j (rV rs) rfl (HW.out.alloc _) (wr.heap.size + 1) _ 1 1 [.int .i64 x, .int .i64 t] rfl (Sl.built (by simp) (by simp) rfl) ?c1 ?c2 ?c3 ?c4 ?_)
              case c1 => intro u hu; simp at hu; rcases hu with rfl | rfl <;> rfl
              case c2 => unfold maxLen; omega
              case c3 => omega
              case c4 => simp; omega
              intro v5 w5 hown5 hg5 _
              have hbn : Below w.heap.size w w5 := below_app (by (repeat' (first | (with_reducible exact Below.refl _ _) | (with_reducible assumption) | (with_reducible refine Below.alloc ?_ ?_ _) | (with_reducible refine Below.drew ?_) | (with_reducible refine belowDrewN ?_ _) | (with_reducible refine Below.setCell ?_ ?_ _) | (with_reducible refine Below.via (by with_reducible assumption) ?_ ?_) | (with_reducible refine Below.viaD (by with_reducible assumption) ?_ ?_) | (with_reducible exact Below.size (by with_reducible assumption)) | go_size | (with_reducible refine Nat.le_trans ?_ (Below.size (by with_reducible assumption))) | (with_reducible refine Nat.le_trans ?_ (sizeAlloc _ _)) | (with_reducible refine Nat.le_trans ?_ (sizeSet _ _ _)) | (with_reducible refine Nat.le_trans ?_ (sizeDrew _))))) (HW.out.alloc _) hg5 (Nat.le_refl _) (by simp; omega)
              have HW5 : Hid (w5.ownsRow w.heap.size 37 2 v5 (j + 1) (rV (rs ++ [(x, t)]))) := by unfold Hid; rw [rV_snoc]; exact hown5
              clear hown5 hg5
              go_wp2_with fail
              go_roundw
              case rel => exact Or.inl ⟨j + 1, a + k1 + k2, rs ++ [(x, t)], by omega, by go_num, ha2, by go_num, rfl, by rw [List.length_append, hrl]; rfl, HT2.out, HW5.out, hbn⟩
              case measure => first | (simp [intOf]; done) | (simp [intOf]; omega)
        case neg =>
          have hjc : c.toNat = j := by omega
          rw [hjc, Nat.sub_self, adv_done] at HT
          rw [hjc] at HU
          have HR : Hid (R = if s.data.toList.drop a = [] then fromRuns rs else none) := by unfold Hid; rw [HU.out, HT.out]
          have hj6 : j ≤ 1000000 := by omega
          have HF := Lib.hid (fun (W : World) (h : Sl W W.heap.size 2 A' j (rV rs)) => sFromRuns_any A' j cap rs W h hrl (by omega))
          clear HU HT hrl hjc
          by_cases hae : a = s.size
          case neg =>
            have hno : R = none := by rw [HR.out, if_neg (HDN.out a (by omega))]
            subst hno
            have han : ((a : Int) != (s.size : Int)) = true := by rw [bne_iff_ne]; omega
            clear HR
            go_wp2_with fail
            go_ret2
            exact UnPost.bad rfl hbl
          case pos =>
            subst hae
            have HR2 : Hid (R = fromRuns rs) := by unfold Hid; rw [HR.out, if_pos HDE.out]
            clear HR
            go_wp2_with fail
            refine (HF.out _ HOV.out.sl).mono ?_
            rintro e w2 ⟨h1, h2, hb2⟩
            cases hf : fromRuns rs with
            | none =>
              obtain ⟨cc, hcc, rfl⟩ := h2 hf
              have hno : R = none := by rw [HR2.out, hf]
              subst hno
              have hcb2 : (cc == 0) = false := beq_eq_false_iff_ne.2 hcc
              clear h1 h2 hf
              go_wp2_with fail
              go_ret2
              exact UnPost.bad rfl (by (repeat' (first | (with_reducible exact Below.refl _ _) | (with_reducible assumption) | (with_reducible refine Below.alloc ?_ ?_ _) | (with_reducible refine Below.drew ?_) | (with_reducible refine belowDrewN ?_ _) | (with_reducible refine Below.setCell ?_ ?_ _) | (with_reducible refine Below.via (by with_reducible assumption) ?_ ?_) | (with_reducible refine Below.viaD (by with_reducible assumption) ?_ ?_) | (with_reducible exact Below.size (by with_reducible assumption)) | go_size | (with_reducible refine Nat.le_trans ?_ (Below.size (by with_reducible assumption))) | (with_reducible refine Nat.le_trans ?_ (sizeAlloc _ _)) | (with_reducible refine Nat.le_trans ?_ (sizeSet _ _ _)) | (with_reducible refine Nat.le_trans ?_ (sizeDrew _)))))
            | some l =>
              obtain ⟨v, rfl, ho⟩ := h1 l hf
              have hyes : R = some l := by rw [HR2.out, hf]
              subst hyes
              have HO := Lib.hid ho
              clear h1 h2 hf ho
              go_wp2_with fail
              go_ret2
              exact UnPost.good rfl (ownsRow_base HO.out hbs) (by (repeat' (first | (with_reducible exact Below.refl _ _) | (with_reducible assumption) | (with_reducible refine Below.alloc ?_ ?_ _) | (with_reducible refine Below.drew ?_) | (with_reducible refine belowDrewN ?_ _) | (with_reducible refine Below.setCell ?_ ?_ _) | (with_reducible refine Below.via (by with_reducible assumption) ?_ ?_) | (with_reducible refine Below.viaD (by with_reducible assumption) ?_ ?_) | (with_reducible exact Below.size (by with_reducible assumption)) | go_size | (with_reducible refine Nat.le_trans ?_ (Below.size (by with_reducible assumption))) | (with_reducible refine Nat.le_trans ?_ (sizeAlloc _ _)) | (with_reducible refine Nat.le_trans ?_ (sizeSet _ _ _)) | (with_reducible refine Nat.le_trans ?_ (sizeDrew _)))))
end Go.Proofs.Ytbaimfmepidjcaa
