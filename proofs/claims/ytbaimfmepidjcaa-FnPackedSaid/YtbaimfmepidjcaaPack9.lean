/- Bytes read back as lists, by both functions. Conditions: texts below 2^30. -/
import Derived.Test.YtbaimfmepidjcaaPack3
import Derived.Test.YtbaimfmepidjcaaPack8
import Derived.Deep.DeepMust
namespace Go.Proofs.Ytbaimfmepidjcaa
set_option linter.unusedSimpArgs false
set_option linter.unusedVariables false
open Go.RowKit Go.WideShapes

/-- What a reading of bytes returns. -/
def UnPost (r : Option (List Int)) (w : World) (e : Ending) (w' : World) : Prop := (∀ l, r = some l → ∃ v, e = .returned (.tuple #[v, .bool true]) ∧ w'.ownsRow w.heap.size 2 1 v l.length (iV l)) ∧ (r = none → e = .returned (.tuple #[.slice none 0 0, .bool false])) ∧ Below w.heap.size w w'
theorem UnPost.bad {r : Option (List Int)} {w w' : World} (h : r = none) (hb : Below w.heap.size w w') : UnPost r w (.returned (.tuple #[.slice none 0 0, .bool false])) w' :=
  ⟨fun l hl => (by rw [h] at hl; cases hl), fun _ => rfl, hb⟩
theorem UnPost.good {r : Option (List Int)} {w w' : World} {v : Value} {l : List Int} (h : r = some l) (ho : w'.ownsRow w.heap.size 2 1 v l.length (iV l)) (hb : Below w.heap.size w w') : UnPost r w (.returned (.tuple #[v, .bool true])) w' :=
  ⟨fun l' hl => (by rw [h] at hl; injection hl with hl; subst hl; exact ⟨v, rfl, ho⟩), fun hl => (by rw [h] at hl; cases hl), hb⟩
def adv (rs : List (Int × Int)) (o : Option (List (Int × Int) × List UInt8)) : Option (List (Int × Int) × List UInt8) := o.map fun p => (rs ++ p.1, p.2)
theorem adv_nil (o : Option (List (Int × Int) × List UInt8)) : adv [] o = o := by cases o <;> rfl
theorem adv_step {get : List UInt8 → Option (Int × Nat)} {c : Nat} {l : List UInt8} {rs : List (Int × Int)} {v t : Int} {k j : Nat} (h1 : get l = some (v, k)) (h2 : get (l.drop k) = some (t, j)) : adv rs (takeRuns get (c + 1) l) = adv (rs ++ [(v, t)]) (takeRuns get c ((l.drop k).drop j)) := by
  rw [takeRuns, h1]
  simp only [h2]
  cases takeRuns get c ((l.drop k).drop j) with
  | none => rfl
  | some p => simp [adv, List.append_assoc]
theorem adv_bad1 {get : List UInt8 → Option (Int × Nat)} {c : Nat} {l : List UInt8} {rs : List (Int × Int)} (h1 : get l = none) : adv rs (takeRuns get (c + 1) l) = none := by rw [takeRuns, h1]; rfl
theorem adv_bad2 {get : List UInt8 → Option (Int × Nat)} {c : Nat} {l : List UInt8} {rs : List (Int × Int)} {v : Int} {k : Nat} (h1 : get l = some (v, k)) (h2 : get (l.drop k) = none) : adv rs (takeRuns get (c + 1) l) = none := by
  rw [takeRuns, h1]
  simp only [h2]
  rfl
theorem adv_done {get : List UInt8 → Option (Int × Nat)} {l : List UInt8} {rs : List (Int × Int)} : adv rs (takeRuns get 0 l) = some (rs, l) := by simp [takeRuns, adv]
theorem drop_drop' (l : List UInt8) (a k : Nat) : (l.drop a).drop k = l.drop (a + k) := by rw [List.drop_drop]
theorem getI_len {l : List UInt8} {n : Int} {k : Nat} (h : getI l = some (n, k)) : 1 ≤ k ∧ k ≤ l.length ∧ isItemR n = true := by
  obtain ⟨h1, h2, h3⟩ := getI_some h
  have h4 := put_item_len h1
  have h5 := congrArg List.length h2
  rw [List.length_append] at h5
  exact ⟨by omega, by omega, h1⟩
theorem getS_len {l : List UInt8} {n : Int} {k : Nat} (h : getS l = some (n, k)) : 1 ≤ k ∧ k ≤ l.length ∧ isItemR n = true := by
  rw [← getI_getS] at h
  exact getI_len h
theorem getV_some (n : Int) (k a : Nat) : getV (some (n, k)) a = .tuple #[.int .i64 n, .int .i64 ((a + k : Nat) : Int), .int .i64 0] := rfl
theorem getV_none (a : Nat) : getV none a = .tuple #[.int .i64 0, .int .i64 0, .int .i64 8] := rfl
theorem ownsRow_base {w : World} {base base' : Nat} {e : TypeId} {size : Nat} {v : Value} {n : Nat} {xs : List Value} (h : w.ownsRow base e size v n xs) (hb : base' ≤ base) : w.ownsRow base' e size v n xs := by
  refine ⟨h.1, ?_⟩
  rcases h.2 with hn | ⟨g, cap, cur, rfl, hbb, rest⟩
  · exact .inl hn
  · exact .inr ⟨g, cap, cur, rfl, Nat.le_trans hb hbb, rest⟩
theorem dropLen (s : ByteArray) (a : Nat) : (s.data.toList.drop a).length = s.size - a := by rw [List.length_drop]; simp
set_option maxRecDepth 100000 in
set_option maxHeartbeats 8000000 in
theorem unpack_any (s : ByteArray) (w : World) (hs : s.size ≤ 1048576) : Calls Try.prog 33 #[.string s] w (UnPost (unpackI s.data.toList) w) := by
  obtain ⟨i0, ti, tz0, tz1, tz2⟩ := info_parts info_Run
  have HG := Lib.hid (fun a (W : World) (ha : a ≤ s.size) => GetNumber_any s a W ha (by omega))
  have HLN := Lib.hid (dropLen s)
  have hb0 : getI (s.data.toList.drop 0) = getI s.data.toList := by rw [List.drop_zero]
  have HU : Hid (unpackI s.data.toList = match getI (s.data.toList.drop 0) with | none => none | some (c, k) => if 0 ≤ c ∧ c ≤ 4000 then match takeRuns getI c.toNat (s.data.toList.drop k) with | none => none | some (rs, _) => fromRuns rs else none) := by unfold Hid; rw [hb0]; rfl
  obtain ⟨R, hR⟩ : ∃ R, unpackI s.data.toList = R := ⟨_, rfl⟩
  rw [hR] at HU ⊢
  clear hR hb0
  cases hg : getI (s.data.toList.drop 0) with
  | none =>
    have hno : R = none := by rw [HU.out, hg]
    subst hno
    have HGG := Lib.hid hg
    clear hg
    go_enter Try.func33, Try.ntmps33
    go_wp2_with fail
    refine (HG.out 0 _ (Nat.zero_le _)).mono ?_
    rw [HGG.out, getV_none]
    rintro e w1 ⟨rfl, hb1⟩
    go_wp2_with fail
    go_ret2
    exact UnPost.bad rfl hb1
  | some p =>
    obtain ⟨c, k⟩ := p
    have hkl := getI_len hg
    have hkl2 : k ≤ s.size := by have := HLN.out 0; omega
    have hci := hkl.2.2
    simp only [isItemR, decide_eq_true_eq] at hci
    have HGG := Lib.hid hg
    rw [hg] at HU
    simp only at HU
    clear hg hkl
    obtain ⟨q, hq⟩ : ∃ q, inB c 0 4000 = q := ⟨_, rfl⟩
    have HQ := Lib.hid hq
    cases q
    case false =>
      have hno : R = none := by
        rw [HU.out, if_neg]
        intro h
        rw [inB_t h.1 h.2] at hq
        cases hq
      subst hno
      clear hq HU
      go_enter Try.func33, Try.ntmps33
      go_wp2_with fail
      refine (HG.out 0 _ (Nat.zero_le _)).mono ?_
      rw [HGG.out, getV_some, Nat.zero_add]
      rintro e w1 ⟨rfl, hb1⟩
      go_wp2_with (go_at_call 30; refine (between_any _ _ _ _).mono ?_; rintro e w_ ⟨rfl, rfl⟩; rw [HQ.out])
      go_ret2
      exact UnPost.bad rfl hb1
    case true =>
      have hcb := inB_of hq
      obtain ⟨C, rfl⟩ : ∃ C : Nat, c = C := ⟨c.toNat, by omega⟩
      have HU2 : Hid (R = match takeRuns getI C (s.data.toList.drop k) with | none => none | some (rs, _) => fromRuns rs) := by
        unfold Hid
        rw [HU.out, if_pos hcb]
        rfl
      clear hq HU hci
      go_enter Try.func33, Try.ntmps33
      go_wp2_with fail
      refine (HG.out 0 _ (Nat.zero_le _)).mono ?_
      rw [HGG.out, getV_some, Nat.zero_add]
      rintro e w1 ⟨rfl, hb1⟩
      have hsz1 := hb1.size
      go_wp2_with (go_at_call 30; refine (between_any _ _ _ _).mono ?_; rintro e w_ ⟨rfl, rfl⟩; rw [HQ.out])
      go_loopw [5, 7, 27] (fun at_ v i wr => ∃ (j a : Nat) (rs : List (Int × Int)), j ≤ C ∧ i = .int .i64 j ∧ a ≤ s.size ∧ at_ = .int .i64 a ∧ rs.length = j ∧ j ≤ 1048576 ∧ Hid (takeRuns getI C (s.data.toList.drop k) = adv rs (takeRuns getI (C - j) (s.data.toList.drop a))) ∧ wr.ownsRow w.heap.size 37 2 v j (rV rs) ∧ Below w.heap.size w wr) (fun _ _ i _ => C - (intOf i).toNat)
      case atStart => exact ⟨0, k, [], Nat.zero_le _, rfl, hkl2, rfl, rfl, by omega, by unfold Hid; rw [adv_nil]; rfl, World.ownsRow_made _ _ 0 (by first | exact hsz1 | (simp; omega)) (Nat.zero_le _) rfl, by (repeat' (first | (with_reducible exact Below.refl _ _) | (with_reducible assumption) | (with_reducible refine Below.alloc ?_ ?_ _) | (with_reducible refine Below.drew ?_) | (with_reducible refine belowDrewN ?_ _) | (with_reducible refine Below.setCell ?_ ?_ _) | (with_reducible refine Below.via (by with_reducible assumption) ?_ ?_) | (with_reducible refine Below.viaD (by with_reducible assumption) ?_ ?_) | (with_reducible exact Below.size (by with_reducible assumption)) | go_size | (with_reducible refine Nat.le_trans ?_ (Below.size (by with_reducible assumption))) | (with_reducible refine Nat.le_trans ?_ (sizeAlloc _ _)) | (with_reducible refine Nat.le_trans ?_ (sizeSet _ _ _)) | (with_reducible refine Nat.le_trans ?_ (sizeDrew _))))⟩
      case round =>
        obtain ⟨j, a, rs, hj, rfl, ha, rfl, hrl, hj2, HT, hown, hbl⟩ := hrel
        have hbs := hbl.size
        obtain ⟨A', g, cap, rfl, hgb, hqc, hcm, hov⟩ := own_of_row hown
        have HW := Lib.hid hown
        have HOV := Lib.hid hov
        clear hown hov
        by_cases hlt : j < C
        case pos =>
          have e1 : C - j = (C - (j + 1)) + 1 := by omega
          cases hg1 : getI (s.data.toList.drop a) with
          | none =>
            have hno : R = none := by rw [HU2.out, HT.out, e1, adv_bad1 hg1]
            subst hno
            have HG1 := Lib.hid hg1
            clear hg1 e1 HU2 HT
            go_wp2_with fail
            refine (HG.out a _ ha).mono ?_
            rw [HG1.out, getV_none]
            rintro e w2 ⟨rfl, hb2⟩
            have K8 := (Blk.new wr 37 #[.int .i64 0, .int .i64 0]).later hb2
            have k0 : w2.cell? ⟨wr.heap.size, 0, none⟩ = some (.int .i64 0) := K8.cell 0
            have k1 : w2.cell? ⟨wr.heap.size, 1, none⟩ = some (.int .i64 0) := K8.cell 1
            have f0 := K8.free 0
            have hl8 := K8.lt
            clear K8
            go_wp2_with fail
            go_ret2
            exact UnPost.bad rfl (by (repeat' (first | (with_reducible exact Below.refl _ _) | (with_reducible assumption) | (with_reducible refine Below.alloc ?_ ?_ _) | (with_reducible refine Below.drew ?_) | (with_reducible refine belowDrewN ?_ _) | (with_reducible refine Below.setCell ?_ ?_ _) | (with_reducible refine Below.via (by with_reducible assumption) ?_ ?_) | (with_reducible refine Below.viaD (by with_reducible assumption) ?_ ?_) | (with_reducible exact Below.size (by with_reducible assumption)) | go_size | (with_reducible refine Nat.le_trans ?_ (Below.size (by with_reducible assumption))) | (with_reducible refine Nat.le_trans ?_ (sizeAlloc _ _)) | (with_reducible refine Nat.le_trans ?_ (sizeSet _ _ _)) | (with_reducible refine Nat.le_trans ?_ (sizeDrew _)))))
          | some p =>
            obtain ⟨x, k1⟩ := p
            have hl1 := getI_len hg1
            have hln := HLN.out a
            have ha1 : a + k1 ≤ s.size := by omega
            cases hg2 : getI (s.data.toList.drop (a + k1)) with
            | none =>
              have hno : R = none := by rw [HU2.out, HT.out, e1, adv_bad2 hg1 (by rw [drop_drop']; exact hg2)]
              subst hno
              have HG1 := Lib.hid hg1
              have HG2 := Lib.hid hg2
              clear hg1 hg2 e1 HU2 HT
              go_wp2_with fail
              refine (HG.out a _ ha).mono ?_
              rw [HG1.out, getV_some]
              rintro e w2 ⟨rfl, hb2⟩
              have K8 := (Blk.new wr 37 #[.int .i64 0, .int .i64 0]).later hb2
              have B2 : Below w.heap.size w w2 := by (repeat' (first | (with_reducible exact Below.refl _ _) | (with_reducible assumption) | (with_reducible refine Below.alloc ?_ ?_ _) | (with_reducible refine Below.drew ?_) | (with_reducible refine belowDrewN ?_ _) | (with_reducible refine Below.setCell ?_ ?_ _) | (with_reducible refine Below.via (by with_reducible assumption) ?_ ?_) | (with_reducible refine Below.viaD (by with_reducible assumption) ?_ ?_) | (with_reducible exact Below.size (by with_reducible assumption)) | go_size | (with_reducible refine Nat.le_trans ?_ (Below.size (by with_reducible assumption))) | (with_reducible refine Nat.le_trans ?_ (sizeAlloc _ _)) | (with_reducible refine Nat.le_trans ?_ (sizeSet _ _ _)) | (with_reducible refine Nat.le_trans ?_ (sizeDrew _))))
              have K9 := Lib.hid (K8.set 0 (.int .i64 x))
              have k0 : w2.cell? ⟨wr.heap.size, 0, none⟩ = some (.int .i64 0) := K8.cell 0
              have f0 := K8.free 0
              have hl8 := K8.lt
              clear K8
              go_wp2_with fail
              refine (HG.out (a + k1) _ ha1).mono ?_
              rw [HG2.out, getV_none]
              rintro e w3 ⟨rfl, hb3⟩
              have K10 := K9.out.later hb3
              have q1 : w3.cell? ⟨wr.heap.size, 1, none⟩ = some (.int .i64 0) := K10.cell 1
              have q0 := K10.free 1
              have hl10 := K10.lt
              clear K10 f0 k0
              go_wp2_with fail
              go_ret2
              exact UnPost.bad rfl (by (repeat' (first | (with_reducible exact Below.refl _ _) | (with_reducible assumption) | (with_reducible refine Below.alloc ?_ ?_ _) | (with_reducible refine Below.drew ?_) | (with_reducible refine belowDrewN ?_ _) | (with_reducible refine Below.setCell ?_ ?_ _) | (with_reducible refine Below.via (by with_reducible assumption) ?_ ?_) | (with_reducible refine Below.viaD (by with_reducible assumption) ?_ ?_) | (with_reducible exact Below.size (by with_reducible assumption)) | go_size | (with_reducible refine Nat.le_trans ?_ (Below.size (by with_reducible assumption))) | (with_reducible refine Nat.le_trans ?_ (sizeAlloc _ _)) | (with_reducible refine Nat.le_trans ?_ (sizeSet _ _ _)) | (with_reducible refine Nat.le_trans ?_ (sizeDrew _)))))
            | some p2 =>
              obtain ⟨t, k2⟩ := p2
              have hl2 := getI_len hg2
              have hln2 := HLN.out (a + k1)
              have ha2 : a + k1 + k2 ≤ s.size := by omega
              have HT2 : Hid (takeRuns getI C (s.data.toList.drop k) = adv (rs ++ [(x, t)]) (takeRuns getI (C - (j + 1)) (s.data.toList.drop (a + k1 + k2)))) := by
                unfold Hid
                rw [HT.out, e1, adv_step hg1 (by rw [drop_drop']; exact hg2), drop_drop', drop_drop', ← Nat.add_assoc]
              have HG1 := Lib.hid hg1
              have HG2 := Lib.hid hg2
              have hxi := hl1.2.2
              have hti := hl2.2.2
              simp only [isItemR, decide_eq_true_eq] at hxi hti
              clear hg1 hg2 e1 HT hln hln2 hl1 hl2
              go_wp2_with fail
              refine (HG.out a _ ha).mono ?_
              rw [HG1.out, getV_some]
              rintro e w2 ⟨rfl, hb2⟩
              have K8 := (Blk.new wr 37 #[.int .i64 0, .int .i64 0]).later hb2
              have B2 : Below w.heap.size w w2 := by (repeat' (first | (with_reducible exact Below.refl _ _) | (with_reducible assumption) | (with_reducible refine Below.alloc ?_ ?_ _) | (with_reducible refine Below.drew ?_) | (with_reducible refine belowDrewN ?_ _) | (with_reducible refine Below.setCell ?_ ?_ _) | (with_reducible refine Below.via (by with_reducible assumption) ?_ ?_) | (with_reducible refine Below.viaD (by with_reducible assumption) ?_ ?_) | (with_reducible exact Below.size (by with_reducible assumption)) | go_size | (with_reducible refine Nat.le_trans ?_ (Below.size (by with_reducible assumption))) | (with_reducible refine Nat.le_trans ?_ (sizeAlloc _ _)) | (with_reducible refine Nat.le_trans ?_ (sizeSet _ _ _)) | (with_reducible refine Nat.le_trans ?_ (sizeDrew _))))
              have R2 := Lib.hid (row_below HW.out (Below.via hb2 (boxedF wr _) (sizeAlloc _ _)))
              have K9 := Lib.hid (K8.set 0 (.int .i64 x))
              have k0 : w2.cell? ⟨wr.heap.size, 0, none⟩ = some (.int .i64 0) := K8.cell 0
              have f0 := K8.free 0
              have hl8 := K8.lt
              clear K8 hb2
              go_wp2_with fail
              refine (HG.out (a + k1) _ ha1).mono ?_
              rw [HG2.out, getV_some]
              rintro e w3 ⟨rfl, hb3⟩
              have K10 := K9.out.later hb3
              have B2s : Below w.heap.size w (w2.setCell ⟨wr.heap.size, 0, none⟩ (.int .i64 x)) := Below.setCell B2 (by show w.heap.size ≤ _; omega) _
              have B3 : Below w.heap.size w w3 := Below.via hb3 B2s B2s.size
              have hne : ∀ g', Value.ownBlock (.slice A' j cap) = some g' → wr.heap.size ≠ g' := fun g' hg' => by
                have := (HW.out.lt g' hg').2
                omega
              have R3 := Lib.hid (row_set (row_below (row_set R2.out (p := ⟨wr.heap.size, 0, none⟩) hne (.int .i64 x)) hb3) (p := ⟨wr.heap.size, 1, none⟩) hne (.int .i64 t))
              have q1 : w3.cell? ⟨wr.heap.size, 1, none⟩ = some (.int .i64 0) := K10.cell 1
              have q2 : w3.cell? ⟨wr.heap.size, 0, none⟩ = some (.int .i64 x) := K10.cell 0
              have q0 := K10.free 1
              have hl10 := K10.lt
              have hs3 := B3.size
              clear K10 f0 k0 hb3
              go_wp2_with (at_builtin; go_must (refine wpList_append_sl _ rfl _ _ 31 rfl w.heap.size 37 i0 _ 2 16 Try.underlying31 ti tz0 tz1 tz2 rfl (by decide) _ j (rV rs) rfl (R3.out.alloc _) (w3.heap.size + 1) _ 1 1 [.int .i64 x, .int .i64 t] rfl (Sl.built (by simp) (by simp) rfl) ?c1 ?c2 ?c3 ?c4 ?_))
              case c1 => intro u hu; simp at hu; rcases hu with rfl | rfl <;> rfl
              case c2 => unfold maxLen; omega
              case c3 => omega
              case c4 => simp; omega
              intro v5 w5 hown5 hg5 _
              have hbn : Below w.heap.size w w5 := below_app (by (repeat' (first | (with_reducible exact Below.refl _ _) | (with_reducible assumption) | (with_reducible refine Below.alloc ?_ ?_ _) | (with_reducible refine Below.drew ?_) | (with_reducible refine belowDrewN ?_ _) | (with_reducible refine Below.setCell ?_ ?_ _) | (with_reducible refine Below.via (by with_reducible assumption) ?_ ?_) | (with_reducible refine Below.viaD (by with_reducible assumption) ?_ ?_) | (with_reducible exact Below.size (by with_reducible assumption)) | go_size | (with_reducible refine Nat.le_trans ?_ (Below.size (by with_reducible assumption))) | (with_reducible refine Nat.le_trans ?_ (sizeAlloc _ _)) | (with_reducible refine Nat.le_trans ?_ (sizeSet _ _ _)) | (with_reducible refine Nat.le_trans ?_ (sizeDrew _))))) (R3.out.alloc _) hg5 (Nat.le_refl _) (by simp; omega)
              have HW5 : Hid (w5.ownsRow w.heap.size 37 2 v5 (j + 1) (rV (rs ++ [(x, t)]))) := by unfold Hid; rw [rV_snoc]; exact hown5
              clear hown5 hg5
              go_wp2_with fail
              go_roundw
              case rel => exact ⟨j + 1, a + k1 + k2, rs ++ [(x, t)], by omega, by go_num, ha2, by go_num, by rw [List.length_append, hrl]; rfl, by omega, HT2.out, HW5.out, hbn⟩
              case measure => first | (simp [intOf]; done) | (simp [intOf]; omega)
        case neg =>
          obtain rfl : j = C := by omega
          have HR : Hid (R = fromRuns rs) := by unfold Hid; rw [HU2.out, HT.out, Nat.sub_self, adv_done]
          have HF := Lib.hid (fun (W : World) (h : Sl W W.heap.size 2 A' j (rV rs)) => FromRuns_any A' j cap rs W h hrl (by omega))
          clear HU2 HT hrl
          go_wp2_with fail
          refine (HF.out _ HOV.out.sl).mono ?_
          rintro e w2 ⟨h1, h2, hb2⟩
          cases hf : fromRuns rs with
          | none =>
            obtain ⟨cc, hcc, rfl⟩ := h2 hf
            have hno : R = none := by rw [HR.out, hf]
            subst hno
            have hcb2 : (cc == 0) = false := beq_eq_false_iff_ne.2 hcc
            clear h1 h2 hf
            go_wp2_with fail
            go_ret2
            exact UnPost.bad rfl (by (repeat' (first | (with_reducible exact Below.refl _ _) | (with_reducible assumption) | (with_reducible refine Below.alloc ?_ ?_ _) | (with_reducible refine Below.drew ?_) | (with_reducible refine belowDrewN ?_ _) | (with_reducible refine Below.setCell ?_ ?_ _) | (with_reducible refine Below.via (by with_reducible assumption) ?_ ?_) | (with_reducible refine Below.viaD (by with_reducible assumption) ?_ ?_) | (with_reducible exact Below.size (by with_reducible assumption)) | go_size | (with_reducible refine Nat.le_trans ?_ (Below.size (by with_reducible assumption))) | (with_reducible refine Nat.le_trans ?_ (sizeAlloc _ _)) | (with_reducible refine Nat.le_trans ?_ (sizeSet _ _ _)) | (with_reducible refine Nat.le_trans ?_ (sizeDrew _)))))
          | some l =>
            obtain ⟨v, rfl, ho⟩ := h1 l hf
            have hyes : R = some l := by rw [HR.out, hf]
            subst hyes
            have HO := Lib.hid ho
            clear h1 h2 hf ho
            go_wp2_with fail
            go_ret2
            exact UnPost.good rfl (ownsRow_base HO.out hbs) (by (repeat' (first | (with_reducible exact Below.refl _ _) | (with_reducible assumption) | (with_reducible refine Below.alloc ?_ ?_ _) | (with_reducible refine Below.drew ?_) | (with_reducible refine belowDrewN ?_ _) | (with_reducible refine Below.setCell ?_ ?_ _) | (with_reducible refine Below.via (by with_reducible assumption) ?_ ?_) | (with_reducible refine Below.viaD (by with_reducible assumption) ?_ ?_) | (with_reducible exact Below.size (by with_reducible assumption)) | go_size | (with_reducible refine Nat.le_trans ?_ (Below.size (by with_reducible assumption))) | (with_reducible refine Nat.le_trans ?_ (sizeAlloc _ _)) | (with_reducible refine Nat.le_trans ?_ (sizeSet _ _ _)) | (with_reducible refine Nat.le_trans ?_ (sizeDrew _)))))
end Go.Proofs.Ytbaimfmepidjcaa
