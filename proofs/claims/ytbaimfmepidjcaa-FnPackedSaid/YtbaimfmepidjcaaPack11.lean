/- UnpackList of both sides. Conditions: texts below 2^20. -/
import Derived.Test.YtbaimfmepidjcaaPack10
import Derived.Test.YtbaimfmepidjcaaPack6
import Derived.BigQuiet
import Derived.Deep.QuietTactic
namespace Go.Proofs.Ytbaimfmepidjcaa
set_option linter.unusedSimpArgs false
set_option linter.unusedVariables false
open Go.RowKit Go.WideShapes

def UPost (r : Option (List Int)) (w : World) (e : Ending) (w' : World) : Prop := (∀ l, r = some l → ∃ v, e = .returned (.tuple #[v, .int .i64 0]) ∧ w'.ownsRow w.heap.size 2 1 v l.length (iV l)) ∧ (r = none → e = .returned (.tuple #[.slice none 0 0, .int .i64 8])) ∧ Below w.heap.size w w'
theorem UPost.bad {r : Option (List Int)} {w w' : World} (h : r = none) (hb : Below w.heap.size w w') : UPost r w (.returned (.tuple #[.slice none 0 0, .int .i64 8])) w' :=
  ⟨fun l hl => (by rw [h] at hl; cases hl), fun _ => rfl, hb⟩
theorem UPost.good {r : Option (List Int)} {w w' : World} {v : Value} {l : List Int} (h : r = some l) (ho : w'.ownsRow w.heap.size 2 1 v l.length (iV l)) (hb : Below w.heap.size w w') : UPost r w (.returned (.tuple #[v, .int .i64 0])) w' :=
  ⟨fun l' hl => (by rw [h] at hl; injection hl with hl; subst hl; exact ⟨v, rfl, ho⟩), fun hl => (by rw [h] at hl; cases hl), hb⟩
theorem extract_take (s : ByteArray) (m : Nat) : (s.extract 0 m).data.toList = s.data.toList.take m := by simp [ByteArray.data_extract]
theorem extract_sz (s : ByteArray) (m : Nat) : (s.extract 0 m).size ≤ s.size := by simp [ByteArray.size_extract]; omega
theorem tail_two (s : ByteArray) {m : Nat} (h : s.size = m + 2) : s.data.toList.drop m = [s[m], s[m + 1]] := by
  rw [drop_cons s m (by omega), drop_cons s (m + 1) (by omega), List.drop_eq_nil_of_le (by simp; omega)]
theorem tail_iff (L : List UInt8) (a b : UInt8) : tailL L = [a, b] ↔ (sumL L : Int) = 256 * (a.toNat : Int) + (b.toNat : Int) := by
  have h := sumL_lt L
  have ha := a.toNat_lt
  have hb := b.toNat_lt
  rw [tailL, List.cons.injEq, List.cons.injEq]
  constructor
  · rintro ⟨h1, h2, -⟩
    rw [← UInt8.toNat_inj, UInt8.toNat_ofNat'] at h1 h2
    omega
  · intro h1
    refine ⟨?_, ?_, rfl⟩ <;> (rw [← UInt8.toNat_inj, UInt8.toNat_ofNat']; omega)
theorem mk_list (l : List UInt8) : (⟨l.toArray⟩ : ByteArray).data.toList = l := rfl
theorem ba_size (s : ByteArray) : s.data.toList.length = s.size := by simp
def pickGo (o : Option (List Int)) (s : List UInt8) : Option (List Int) := match o with
  | some l => if packL l = s then some l else none
  | none => none
theorem pickI_ge {s : List UInt8} {m : Nat} (h : s.length = m + 2) (h3 : 3 ≤ s.length) : pickI s = pickGo (unpackI (s.take m)) s := by
  rw [pickI, if_neg (by omega), show s.length - 2 = m from by omega]
  unfold pickGo
  rfl
theorem pickI_lt {s : List UInt8} (h3 : s.length < 3) : pickI s = none := by rw [pickI, if_pos h3]
theorem pickS_lt {s : List UInt8} (h3 : s.length < 3) : pickS s = none := by rw [pickS, if_pos (Or.inl h3)]
theorem pickS_ge {s : List UInt8} {m : Nat} (h : s.length = m + 2) (h3 : 3 ≤ s.length) (ht : tailL (s.take m) = s.drop m) : pickS s = pickGo (unpackS (s.take m)) s := by
  rw [pickS, show s.length - 2 = m from by omega, if_neg (fun hc => hc.elim (fun h => by omega) (fun h => h ht))]
  unfold pickGo
  rfl
theorem pickS_tail {s : List UInt8} {m : Nat} (h : s.length = m + 2) (ht : tailL (s.take m) ≠ s.drop m) : pickS s = none := by
  rw [pickS, show s.length - 2 = m from by omega, if_pos (Or.inr ht)]
set_option maxRecDepth 100000 in
set_option maxHeartbeats 4000000 in
theorem UnpackList_any (s : ByteArray) (w : World) (hs : s.size ≤ 1048576) : Calls Try.prog 20 #[.string s] w (UPost (pickI s.data.toList) w) := by
  obtain ⟨R, hR⟩ : ∃ R, pickI s.data.toList = R := ⟨_, rfl⟩
  rw [hR]
  by_cases h3 : s.size < 3
  case pos =>
    rw [pickI_lt (by rw [ba_size]; exact h3)] at hR
    subst hR
    go_enter Try.func20, Try.ntmps20
    go_wp2_with fail
    go_ret2
    exact UPost.bad rfl (by (repeat' (first | (with_reducible exact Below.refl _ _) | (with_reducible assumption) | (with_reducible refine Below.alloc ?_ ?_ _) | (with_reducible refine Below.drew ?_) | (with_reducible refine belowDrewN ?_ _) | (with_reducible refine Below.setCell ?_ ?_ _) | (with_reducible refine Below.via (by with_reducible assumption) ?_ ?_) | (with_reducible refine Below.viaD (by with_reducible assumption) ?_ ?_) | (with_reducible exact Below.size (by with_reducible assumption)) | go_size | (with_reducible refine Nat.le_trans ?_ (Below.size (by with_reducible assumption))) | (with_reducible refine Nat.le_trans ?_ (sizeAlloc _ _)) | (with_reducible refine Nat.le_trans ?_ (sizeSet _ _ _)) | (with_reducible refine Nat.le_trans ?_ (sizeDrew _)))))
  case neg =>
    obtain ⟨m, hm⟩ : ∃ m, s.size = m + 2 := ⟨s.size - 2, by omega⟩
    have hR2 := (pickI_ge (s := s.data.toList) (m := m) (by rw [ba_size]; exact hm) (by rw [ba_size]; omega)).symm.trans hR
    have HR := Lib.hid hR2
    have hm1 : (s.size : Int) - 2 = (m : Int) := by omega
    have hm2 : (m : Int) ≤ (s.size : Int) := by omega
    have HU := Lib.hid (fun W => unpack_any (s.extract 0 m) W (Nat.le_trans (extract_sz s m) hs))
    have HE := Lib.hid (extract_take s m)
    clear hR hR2 hm
    go_enter Try.func20, Try.ntmps20
    go_wp2_with fail
    refine (HU.out _).mono ?_
    rw [HE.out]
    rintro e w1 ⟨h1, h2, hb1⟩
    cases hu : unpackI (s.data.toList.take m) with
    | none =>
      have hno : R = none := by rw [← HR.out, hu]; rfl
      subst hno
      obtain rfl := h2 hu
      obtain ⟨q, hq⟩ : ∃ q : ByteArray, (⟨(packL []).toArray⟩ : ByteArray) = q := ⟨_, rfl⟩
      have HP : Hid (packV [] = .tuple #[.string q, .int .i64 0]) := by unfold Hid; rw [packV_yes (by rfl), hq]
      clear h1 h2 hu hq
      go_wp2_with fail
      refine (PackList_any none 0 0 [] _ (Sl.nil _ _ _ _) (by omega)).mono ?_
      rw [HP.out]
      rintro e w2 ⟨rfl, hb2⟩
      go_wp2_with fail
      go_ret2
      exact UPost.bad rfl (by (repeat' (first | (with_reducible exact Below.refl _ _) | (with_reducible assumption) | (with_reducible refine Below.alloc ?_ ?_ _) | (with_reducible refine Below.drew ?_) | (with_reducible refine belowDrewN ?_ _) | (with_reducible refine Below.setCell ?_ ?_ _) | (with_reducible refine Below.via (by with_reducible assumption) ?_ ?_) | (with_reducible refine Below.viaD (by with_reducible assumption) ?_ ?_) | (with_reducible exact Below.size (by with_reducible assumption)) | go_size | (with_reducible refine Nat.le_trans ?_ (Below.size (by with_reducible assumption))) | (with_reducible refine Nat.le_trans ?_ (sizeAlloc _ _)) | (with_reducible refine Nat.le_trans ?_ (sizeSet _ _ _)) | (with_reducible refine Nat.le_trans ?_ (sizeDrew _)))))
    | some l =>
      obtain ⟨v, rfl, ho⟩ := h1 l hu
      have hok := unpackI_ok hu
      have hl4 := okItems_len hok
      obtain ⟨A', g, cap, rfl, hgb, hqc, hcm, hov⟩ := own_of_row ho
      have HO := Lib.hid ho
      obtain ⟨q, hq⟩ : ∃ q : ByteArray, (⟨(packL l).toArray⟩ : ByteArray) = q := ⟨_, rfl⟩
      have HP : Hid (packV l = .tuple #[.string q, .int .i64 0]) := by unfold Hid; rw [packV_yes hok, hq]
      have HPL := Lib.hid (PackList_any A' l.length cap l w1 hov.sl (by omega))
      have hql : q.toList = packL l := by rw [ByteArray.toList_eq, ← hq]
      by_cases hps : packL l = s.data.toList
      case pos =>
        have hyes : R = some l := by rw [← HR.out, hu]; simp [pickGo, hps]
        subst hyes
        have hcmp : (q.toList == s.toList) = true := by rw [beq_iff_eq, hql, ByteArray.toList_eq s]; exact hps
        clear h1 h2 hu hq ho hov hql hps hok
        go_wp2_with fail
        refine HPL.out.mono ?_
        rw [HP.out]
        rintro e w2 ⟨rfl, hb2⟩
        go_wp2_with fail
        go_ret2
        exact UPost.good rfl (row_below HO.out hb2) (by (repeat' (first | (with_reducible exact Below.refl _ _) | (with_reducible assumption) | (with_reducible refine Below.alloc ?_ ?_ _) | (with_reducible refine Below.drew ?_) | (with_reducible refine belowDrewN ?_ _) | (with_reducible refine Below.setCell ?_ ?_ _) | (with_reducible refine Below.via (by with_reducible assumption) ?_ ?_) | (with_reducible refine Below.viaD (by with_reducible assumption) ?_ ?_) | (with_reducible exact Below.size (by with_reducible assumption)) | go_size | (with_reducible refine Nat.le_trans ?_ (Below.size (by with_reducible assumption))) | (with_reducible refine Nat.le_trans ?_ (sizeAlloc _ _)) | (with_reducible refine Nat.le_trans ?_ (sizeSet _ _ _)) | (with_reducible refine Nat.le_trans ?_ (sizeDrew _)))))
      case neg =>
        have hno : R = none := by rw [← HR.out, hu]; simp [pickGo, hps]
        subst hno
        have hcmp : (q.toList == s.toList) = false := by rw [beq_eq_false_iff_ne, hql, ByteArray.toList_eq s]; exact hps
        clear h1 h2 hu hq ho hov hql hps hok
        go_wp2_with fail
        refine HPL.out.mono ?_
        rw [HP.out]
        rintro e w2 ⟨rfl, hb2⟩
        go_wp2_with fail
        go_ret2
        exact UPost.bad rfl (by (repeat' (first | (with_reducible exact Below.refl _ _) | (with_reducible assumption) | (with_reducible refine Below.alloc ?_ ?_ _) | (with_reducible refine Below.drew ?_) | (with_reducible refine belowDrewN ?_ _) | (with_reducible refine Below.setCell ?_ ?_ _) | (with_reducible refine Below.via (by with_reducible assumption) ?_ ?_) | (with_reducible refine Below.viaD (by with_reducible assumption) ?_ ?_) | (with_reducible exact Below.size (by with_reducible assumption)) | go_size | (with_reducible refine Nat.le_trans ?_ (Below.size (by with_reducible assumption))) | (with_reducible refine Nat.le_trans ?_ (sizeAlloc _ _)) | (with_reducible refine Nat.le_trans ?_ (sizeSet _ _ _)) | (with_reducible refine Nat.le_trans ?_ (sizeDrew _)))))
theorem quiet_same' {P : Program} {f : FuncId} {args : Array Value} {w : World} {n : Nat} {v : Value} (h : Calls P f args (w.drewN n) fun e w' => e = .returned v ∧ w.drewN n = w') : Calls P f args (w.drewN n) fun e w'' => e = .returned v ∧ ∃ m, w'' = w.drewN m := h.mono fun _ _ ⟨he, hw⟩ => ⟨he, n, hw.symm⟩
set_option maxRecDepth 100000 in
set_option maxHeartbeats 4000000 in
theorem sUnpackList_any (s : ByteArray) (w : World) (hs : s.size ≤ 1048576) : Calls Try.prog 21 #[.string s] w (UPost (pickS s.data.toList) w) := by
  obtain ⟨R, hR⟩ : ∃ R, pickS s.data.toList = R := ⟨_, rfl⟩
  rw [hR]
  by_cases h3 : s.size < 3
  case pos =>
    rw [pickS_lt (by rw [ba_size]; exact h3)] at hR
    subst hR
    have h3' : decide ((s.size : Int) < 3) = true := by simp; omega
    go_enter Try.func21, Try.ntmps21
    go_wp2_with fail
    first | (refine wp_region_quiet_lit (by kernel_rfl) (by kernel_rfl) ?_; refine WQ.of ?_; (repeat (refine WQ.step (fun K hK => ?_); go_simp; first | (refine hK _ ?_; clear hK K) | (apply Exists.intro; refine ⟨fun _ => ?_, hK _ ?_⟩; (fail); clear hK K))); refine WQ.nil ?_; intro _ hw'; obtain ⟨nq, hw''⟩ := hw'; subst hw'') | go_quiet (fail)
    go_wp2_with fail
    go_ret2
    exact UPost.bad rfl (by (repeat' (first | (with_reducible exact Below.refl _ _) | (with_reducible assumption) | (with_reducible refine Below.alloc ?_ ?_ _) | (with_reducible refine Below.drew ?_) | (with_reducible refine belowDrewN ?_ _) | (with_reducible refine Below.setCell ?_ ?_ _) | (with_reducible refine Below.via (by with_reducible assumption) ?_ ?_) | (with_reducible refine Below.viaD (by with_reducible assumption) ?_ ?_) | (with_reducible exact Below.size (by with_reducible assumption)) | go_size | (with_reducible refine Nat.le_trans ?_ (Below.size (by with_reducible assumption))) | (with_reducible refine Nat.le_trans ?_ (sizeAlloc _ _)) | (with_reducible refine Nat.le_trans ?_ (sizeSet _ _ _)) | (with_reducible refine Nat.le_trans ?_ (sizeDrew _)))))
  case neg =>
    obtain ⟨m, hm⟩ : ∃ m, s.size = m + 2 := ⟨s.size - 2, by omega⟩
    have HT := Lib.hid (tail_two s hm)
    have h0 : m < s.size := by omega
    have h1 : m + 1 < s.size := by omega
    obtain ⟨a, ha⟩ : ∃ a, s[m] = a := ⟨_, rfl⟩
    obtain ⟨b, hb⟩ : ∃ b, s[m + 1] = b := ⟨_, rfl⟩
    have hab := a.toNat_lt
    have hbb := b.toNat_lt
    have hm1 : (s.size : Int) - 2 = (m : Int) := by omega
    have hm3 : (s.size : Int) - 1 = ((m + 1 : Nat) : Int) := by omega
    have hm2 : (m : Int) ≤ (s.size : Int) := by omega
    have HSM := Lib.hid (fun W => l14Sum_any (s.extract 0 m) W (by have := extract_sz s m; omega))
    have HE := Lib.hid (extract_take s m)
    have hsm := sumL_lt (s.data.toList.take m)
    have h3' : decide ((s.size : Int) < 3) = false := by simp; omega
    obtain ⟨S, hS⟩ : ∃ S, sumL (s.data.toList.take m) = S := ⟨_, rfl⟩
    have HS := Lib.hid hS
    have HQ : Hid (∀ W j, Calls Try.prog 34 #[.string (s.extract 0 m)] (World.drewN W j) fun e w' => e = .returned (.int .i64 (S : Nat)) ∧ ∃ k, w' = W.drewN k) := fun W j => quiet_same' (by have h := HSM.out (W.drewN j); rw [HE.out, HS.out] at h; exact h)
    rw [hS] at hsm
    have hti := tail_iff (s.data.toList.take m) a b
    rw [hS] at hti
    have HTB : Hid (s.data.toList.drop m = [a, b]) := by unfold Hid; rw [HT.out, ha, hb]
    have w0 : IntKind.i64.wrap ((m : Int)) = (m : Int) := IntWalk.i64_in _ (by omega)
    have i0 : (0 : Int) ≤ (m : Int) := by omega
    have i1 : ((m + 1 : Nat) : Int) < (s.size : Int) := by omega
    have w1 : IntKind.i64.wrap (256 * (a.toNat : Int)) = 256 * (a.toNat : Int) := IntWalk.i64_in _ (by omega)
    have w2 : IntKind.i64.wrap (256 * (a.toNat : Int) + (b.toNat : Int)) = 256 * (a.toNat : Int) + (b.toNat : Int) := IntWalk.i64_in _ (by omega)
    have HM := Lib.hid hm
    by_cases hsum : (S : Int) = 256 * (a.toNat : Int) + (b.toNat : Int)
    case neg =>
      have hno : R = none := by
        rw [← hR]
        refine pickS_tail (m := m) (by rw [ba_size]; exact hm) ?_
        rw [HTB.out]
        intro hc
        exact hsum (hti.1 hc)
      subst hno
      have hb1 : ((S : Int) != 256 * (a.toNat : Int) + (b.toNat : Int)) = true := bne_iff_ne.2 hsum
      clear hR hti hS HT hm hsum
      go_enter Try.func21, Try.ntmps21
      go_wp2_with fail
      first | (refine wp_region_quiet_lit (by kernel_rfl) (by kernel_rfl) ?_; refine WQ.of ?_; (repeat (refine WQ.step (fun K hK => ?_); go_simp; first | (refine hK _ ?_; clear hK K) | (apply Exists.intro; refine ⟨fun _ => ?_, hK _ ?_⟩; ((go_at_call 34; exact HQ.out _ _)); clear hK K))); refine WQ.nil ?_; intro _ hw'; obtain ⟨nq, hw''⟩ := hw'; subst hw'') | go_quiet ((go_at_call 34; exact HQ.out _ _))
      go_wp2_with fail
      go_ret2
      exact UPost.bad rfl (belowDrewN (Below.refl _ _) _)
    case pos =>
      have hb1 : ((S : Int) != 256 * (a.toNat : Int) + (b.toNat : Int)) = false := by rw [bne_eq_false_iff_eq]; exact hsum
      have hR2 := (pickS_ge (s := s.data.toList) (m := m) (by rw [ba_size]; exact hm) (by rw [ba_size]; omega) (by rw [HTB.out]; exact hti.2 hsum)).symm.trans hR
      have HR := Lib.hid hR2
      have HU := Lib.hid (fun W => l14Unpack_any (s.extract 0 m) W (Nat.le_trans (extract_sz s m) hs))
      clear hR hR2 hti hS HT hm hsum HSM
      go_enter Try.func21, Try.ntmps21
      go_wp2_with fail
      first | (refine wp_region_quiet_lit (by kernel_rfl) (by kernel_rfl) ?_; refine WQ.of ?_; (repeat (refine WQ.step (fun K hK => ?_); go_simp; first | (refine hK _ ?_; clear hK K) | (apply Exists.intro; refine ⟨fun _ => ?_, hK _ ?_⟩; ((go_at_call 34; exact HQ.out _ _)); clear hK K))); refine WQ.nil ?_; intro _ hw'; obtain ⟨nq, hw''⟩ := hw'; subst hw'') | go_quiet ((go_at_call 34; exact HQ.out _ _))
      clear ha hb w1 w2 hb1
      go_wp2_with fail
      refine (HU.out _).mono ?_
      rw [HE.out]
      rintro e w1 ⟨h1, h2, hb1⟩
      have B1 : Below w.heap.size w w1 := Below.via hb1 (belowDrewN (Below.refl _ _) _) (Nat.le_refl _)
      have hbs1 := B1.size
      cases hu : unpackS (s.data.toList.take m) with
      | none =>
        have hno : R = none := by rw [← HR.out, hu]; rfl
        subst hno
        obtain rfl := h2 hu
        clear h1 h2 hu
        go_wp2_with fail
        go_ret2
        exact UPost.bad rfl B1
      | some l =>
        obtain ⟨v, rfl, ho⟩ := h1 l hu
        have hok := unpackS_ok hu
        have hl4 := okItems_len hok
        obtain ⟨A', g, cap, rfl, hgb, hqc, hcm, hov⟩ := own_of_row ho
        have HO : Hid (w1.ownsRow w.heap.size 2 1 _ l.length (iV l)) := ownsRow_base ho (Nat.le_refl _)
        obtain ⟨q, hq⟩ : ∃ q : ByteArray, (⟨(packL l).toArray⟩ : ByteArray) = q := ⟨_, rfl⟩
        have HP : Hid ((⟨(packL l).toArray⟩ : ByteArray) = q) := hq
        have HPL := Lib.hid (l14Pack_any A' l.length cap l w1 hov.sl hok)
        have hql : q.toList = packL l := by rw [ByteArray.toList_eq, ← hq]
        by_cases hps : packL l = s.data.toList
        case pos =>
          have hyes : R = some l := by rw [← HR.out, hu]; simp [pickGo, hps]
          subst hyes
          have hcmp : (q.toList == s.toList) = true := by rw [beq_iff_eq, hql, ByteArray.toList_eq s]; exact hps
          clear h1 h2 hu hq ho hov hql hps hok
          go_wp2_with fail
          refine HPL.out.mono ?_
          rw [HP.out]
          rintro e w2 ⟨rfl, hb2⟩
          go_wp2_with fail
          go_ret2
          exact UPost.good rfl (row_below HO.out hb2) (Below.via hb2 B1 B1.size)
        case neg =>
          have hno : R = none := by rw [← HR.out, hu]; simp [pickGo, hps]
          subst hno
          have hcmp : (q.toList == s.toList) = false := by rw [beq_eq_false_iff_ne, hql, ByteArray.toList_eq s]; exact hps
          clear h1 h2 hu hq ho hov hql hps hok
          go_wp2_with fail
          refine HPL.out.mono ?_
          rw [HP.out]
          rintro e w2 ⟨rfl, hb2⟩
          go_wp2_with fail
          go_ret2
          exact UPost.bad rfl (Below.via hb2 B1 B1.size)
end Go.Proofs.Ytbaimfmepidjcaa
