/- Numbers read from bytes, by both functions. Conditions: a place within the text. -/
import Derived.Test.YtbaimfmepidjcaaPack1
import Derived.Test.YtbaimfmepidjcaaHeld
import Derived.Deep.DeepCutAuto
namespace Go.Proofs.Ytbaimfmepidjcaa
set_option linter.unusedSimpArgs false
set_option linter.unusedVariables false
open Go.RowKit Go.WideShapes

def getV (r : Option (Int × Nat)) (a : Nat) : Value := match r with
  | some (n, k) => .tuple #[.int .i64 n, .int .i64 ((a + k : Nat) : Int), .int .i64 0]
  | none => .tuple #[.int .i64 0, .int .i64 0, .int .i64 8]
def accU (j U m : Nat) (o : Option (Nat × Nat)) : Option (Nat × Nat) := o.map fun p => (U + m * p.1, j + p.2)
theorem accU_zero (o : Option (Nat × Nat)) : accU 0 0 1 o = o := by
  cases o with
  | none => rfl
  | some p => simp [accU]
theorem accU_big {f j U m : Nat} {b : UInt8} {r : List UInt8} (hb : 128 ≤ b.toNat) : accU j U m (decU (f + 1) (b :: r)) = accU (j + 1) (U + b.toNat % 128 * m) (m * 128) (decU f r) := by
  rw [decU, if_neg (by omega)]
  cases decU f r with
  | none => rfl
  | some p =>
    obtain ⟨u, k⟩ := p
    simp only [accU, Option.map_some, Option.some.injEq, Prod.mk.injEq]
    refine ⟨?_, by omega⟩
    rw [Nat.mul_add, Nat.add_assoc, Nat.mul_comm (b.toNat % 128) m, Nat.mul_assoc]
theorem accU_small {f j U m : Nat} {b : UInt8} {r : List UInt8} (hb : b.toNat < 128) : accU j U m (decU (f + 1) (b :: r)) = some (U + b.toNat % 128 * m, j + 1) := by
  rw [decU, if_pos hb, Nat.mod_eq_of_lt hb, Nat.mul_comm]
  rfl
theorem accU_end {j U m : Nat} {l : List UInt8} {f : Nat} (h : f = 0 ∨ l = []) : accU j U m (decU f l) = none := by
  rcases h with rfl | rfl
  · rfl
  · cases f <;> rfl
theorem drop_cons (s : ByteArray) (k : Nat) (h : k < s.size) : s.data.toList.drop k = s[k] :: s.data.toList.drop (k + 1) := by
  rw [List.drop_eq_getElem_cons (by simpa using h)]; rfl
theorem getI_none {l : List UInt8} (h : decU 4 l = none) : getI l = none := by rw [getI, h]
theorem getI_bad {l : List UInt8} {u k : Nat} (h : decU 4 l = some (u, k)) (hi : isItemR (unzig u) = false) : getI l = none := by rw [getI, h]; simp [hi]
theorem getI_off {l : List UInt8} {u k : Nat} (h : decU 4 l = some (u, k)) (hp : putL (unzig u) ≠ l.take k) : getI l = none := by rw [getI, h]; simp [hp]
theorem getI_on {l : List UInt8} {u k : Nat} (h : decU 4 l = some (u, k)) (hi : isItemR (unzig u) = true) (hp : putL (unzig u) = l.take k) : getI l = some (unzig u, k) := by rw [getI, h]; simp [hi, ← hp]
set_option maxRecDepth 100000 in
set_option maxHeartbeats 4000000 in
theorem GetNumber_any (s : ByteArray) (a : Nat) (w : World) (ha : a ≤ s.size) (hs : s.size ≤ 1073741824) : Calls Try.prog 18 #[.string s, .int .i64 a] w fun e w' => e = .returned (getV (getI (s.data.toList.drop a)) a) ∧ Below w.heap.size w w' := by
  obtain ⟨G, hG⟩ : ∃ G, getI (s.data.toList.drop a) = G := ⟨_, rfl⟩
  have HG := Lib.hid hG
  rw [hG]
  clear hG
  have hb1 : inB a 0 s.size = true := inB_t (by omega) (by omega)
  have HB := Lib.hid hb1
  clear hb1
  go_enter Try.func18, Try.ntmps18
  go_wp2_with (go_at_call 30; refine (between_any _ _ _ _).mono ?_; rintro e w_ ⟨rfl, rfl⟩; rw [HB.out])
  go_loop [7, 8, 9] (fun u n i => ∃ j U m : Nat, j ≤ 4 ∧ a + j ≤ s.size ∧ i = .int .i64 ((a : Int) + (j : Int)) ∧ u = .int .i64 U ∧ n = .int .i64 m ∧ U < m ∧ m * 128 ^ (4 - j) = 268435456 ∧ Hid (decU 4 (s.data.toList.drop a) = accU j U m (decU (4 - j) (s.data.toList.drop (a + j))))) (fun _ _ i => s.size - (intOf i).toNat)
  case atStart => exact ⟨0, 0, 1, by omega, by omega, by simp, rfl, rfl, by omega, by decide, by unfold Hid; rw [accU_zero]; rfl⟩
  case round =>
    obtain ⟨j, U, m, hj, haj, rfl, rfl, rfl, hU, hm, HR⟩ := hrel
    have hm1 : m ≤ 268435456 := by
      rw [← hm]; exact Nat.le_mul_of_pos_right _ (Nat.pow_pos (by omega))
    have HM := Lib.hid hm
    clear hm
    by_cases hlt : a + j < s.size
    case neg =>
      have hno : G = none := by rw [← HG.out]; exact getI_none (by rw [HR.out]; exact accU_end (Or.inr (by apply List.drop_eq_nil_of_le; simp; omega)))
      subst hno
      go_wp2
      go_ret3
      exact ⟨rfl, by (repeat' (first | (with_reducible exact Below.refl _ _) | (with_reducible assumption) | (with_reducible refine Below.alloc ?_ ?_ _) | (with_reducible refine Below.drew ?_) | (with_reducible refine belowDrewN ?_ _) | (with_reducible refine Below.setCell ?_ ?_ _) | (with_reducible refine Below.via (by with_reducible assumption) ?_ ?_) | (with_reducible refine Below.viaD (by with_reducible assumption) ?_ ?_) | (with_reducible exact Below.size (by with_reducible assumption)) | go_size | (with_reducible refine Nat.le_trans ?_ (Below.size (by with_reducible assumption))) | (with_reducible refine Nat.le_trans ?_ (sizeAlloc _ _)) | (with_reducible refine Nat.le_trans ?_ (sizeSet _ _ _)) | (with_reducible refine Nat.le_trans ?_ (sizeDrew _))))⟩
    case pos =>
      by_cases hj4 : j = 4
      case pos =>
        subst hj4
        have hno : G = none := by rw [← HG.out]; exact getI_none (by rw [HR.out]; exact accU_end (Or.inl rfl))
        subst hno
        go_wp2
        go_ret3
        exact ⟨rfl, by (repeat' (first | (with_reducible exact Below.refl _ _) | (with_reducible assumption) | (with_reducible refine Below.alloc ?_ ?_ _) | (with_reducible refine Below.drew ?_) | (with_reducible refine belowDrewN ?_ _) | (with_reducible refine Below.setCell ?_ ?_ _) | (with_reducible refine Below.via (by with_reducible assumption) ?_ ?_) | (with_reducible refine Below.viaD (by with_reducible assumption) ?_ ?_) | (with_reducible exact Below.size (by with_reducible assumption)) | go_size | (with_reducible refine Nat.le_trans ?_ (Below.size (by with_reducible assumption))) | (with_reducible refine Nat.le_trans ?_ (sizeAlloc _ _)) | (with_reducible refine Nat.le_trans ?_ (sizeSet _ _ _)) | (with_reducible refine Nat.le_trans ?_ (sizeDrew _))))⟩
      case neg =>
        have hj3 : j ≤ 3 := by omega
        have HD : Hid (s.data.toList.drop (a + j) = s[a + j] :: s.data.toList.drop (a + (j + 1))) := drop_cons s (a + j) hlt
        have e4 : 4 - j = (3 - j) + 1 := by omega
        have hm2 : m ≤ 2097152 := by
          have h1 := HM.out
          rw [e4, Nat.pow_succ, ← Nat.mul_assoc] at h1
          have h2 : m ≤ m * 128 ^ (3 - j) := Nat.le_mul_of_pos_right _ (Nat.pow_pos (by omega))
          omega
        obtain ⟨b, hb⟩ : ∃ b, s[a + j] = b := ⟨_, rfl⟩
        have hb2 : b.toNat < 256 := b.toNat_lt
        have hidx : s[(a + j)] = b := hb
        obtain ⟨p, hp⟩ : ∃ p, b.toNat % 128 * m = p := ⟨_, rfl⟩
        have hpb : p ≤ 266338304 := by rw [← hp]; exact Nat.le_trans (Nat.mul_le_mul (show b.toNat % 128 ≤ 127 by omega) hm2) (by decide)
        have hw : IntKind.i64.wrap ((b.toNat : Int) % 128 * (m : Int)) = (p : Int) := by
          have e : ((b.toNat : Int) % 128 * (m : Int)) = (p : Int) := by rw [← hp]; simp
          rw [e]; exact IntWalk.i64_in _ (by omega)
        by_cases hbig : 128 ≤ b.toNat
        case pos =>
          have HN : Hid (decU 4 (s.data.toList.drop a) = accU (j + 1) (U + p) (m * 128) (decU (4 - (j + 1)) (s.data.toList.drop (a + (j + 1))))) := by
            unfold Hid
            rw [HR.out, HD.out, hb, e4, accU_big hbig, hp, show 3 - j = 4 - (j + 1) from by omega]
          have HM2 : Hid (m * 128 * 128 ^ (4 - (j + 1)) = 268435456) := by
            unfold Hid
            have h1 := HM.out
            rw [e4, Nat.pow_succ] at h1
            rw [show 4 - (j + 1) = 3 - j from by omega, Nat.mul_assoc, Nat.mul_comm 128]
            exact h1
          have HP : Hid (U + p < m * 128) := by
            unfold Hid
            rw [← hp]
            have h1 : b.toNat % 128 * m ≤ 127 * m := Nat.mul_le_mul_right _ (by omega)
            omega
          have hb1 : (128 : Int) ≤ (b.toNat : Int) := by omega
          clear hp hb HD HR HM e4
          go_wp2_with fail
          go_round
          case rel => exact ⟨j + 1, U + p, m * 128, by omega, by omega, by go_num, by go_num, by go_num, HP.out, HM2.out, HN⟩
          case measure => simp [intOf]; omega
        case neg =>
          have HV : Hid (decU 4 (s.data.toList.drop a) = some (U + p, j + 1)) := by
            unfold Hid
            rw [HR.out, HD.out, hb, e4, accU_small (by omega), hp]
          have hb1 : ¬ (128 : Int) ≤ (b.toNat : Int) := by omega
          clear hp hb HD HR HM e4
          obtain ⟨V, hV⟩ : ∃ V, U + p = V := ⟨_, rfl⟩
          have hUV : ((U : Int) + (p : Int)) = (V : Int) := by omega
          have hVb : V ≤ 1000000000 := by omega
          rw [hV] at HV
          obtain ⟨n, hn⟩ : ∃ n, unzig V = n := ⟨_, rfl⟩
          have HN := Lib.hid hn
          rw [unzig] at hn
          have hnb : -1000000000 ≤ n ∧ n ≤ 1000000000 := by rw [← hn]; split <;> omega
          have HLS : Hid (((s.data.toList.drop a).take (j + 1)) = (s.extract a (a + (j + 1))).data.toList) := by
            unfold Hid
            simp [ByteArray.data_extract]
          by_cases hodd : V % 2 = 1
          case' pos =>
            rw [if_pos hodd] at hn
            have ho1 : (((V : Int) % 2) == 1) = true := by rw [beq_iff_eq]; omega
            have ho2 : Int.tdiv (-((V : Int) + 1)) 2 = n := by rw [← hn, Int.neg_tdiv, Int.tdiv_eq_ediv_of_nonneg (by omega)]; omega
          case' neg =>
            rw [if_neg hodd] at hn
            have ho1 : (((V : Int) % 2) == 1) = false := by rw [beq_eq_false_iff_ne]; omega
            have ho2 : ((V : Int) / 2) = n := by rw [← hn]; omega
          all_goals
            clear hn
            go_wp2_with fail
            have c0 : (0 : Int) ≤ (a : Int) := by omega
            have c1 : (a : Int) ≤ (a : Int) + (j : Int) + 1 := by omega
            have c2 : (a : Int) + (j : Int) + 1 ≤ (s.size : Int) := by omega
            have c3 : ((a : Int) + (j : Int) + 1).toNat = a + (j + 1) := by omega
            have w0 : IntKind.i64.wrap ((a : Int) + (j : Int) + 1) = (a : Int) + (j : Int) + 1 := IntWalk.i64_in _ (by omega)
            obtain ⟨q, hq⟩ : ∃ q, isItemR n = q := ⟨_, rfl⟩
            have HQ := Lib.hid hq
            clear hq
            cases q
            case false =>
              have hno : G = none := by rw [← HG.out]; exact getI_bad HV.out (by rw [HN.out]; exact HQ.out)
              subst hno
              clear ho1 ho2 HG hw hidx hUV
              refine wp_region_held_drew (S := (fun W => Below w.heap.size w W)) (by kernel_rfl) ?_ (fun hHeld => ?_)
              focus ((try dsimp only); (first | (exact belowDrewN (Below.refl _ _) 1) | (exact Below.via hb_ hHeld hHeld.size) | (exact hHeld) | (exact Below.refl _ _)))
              refine H_take (i := 0) (v := ?_) rfl (by kernel_rfl) (by kernel_rfl) (by kernel_rfl) (fun _ _ _ h => h) (by rfl) ?_ (by assumption) ?_
              rotate_left
              focus (intro w hSw; skip; go_simp; first | done | with_reducible rfl | (trace_state; fail))
              try simp only [Act.put, List.setIfInBounds_toArray, List.set_cons_zero, List.set_cons_succ]
              refine H_call (i := 1) rfl (by kernel_rfl) (fun K hK => ?_)
              go_simp
              (go_at_call 29; (with_reducible refine Calls.mono (isItem_any _ _) ?_); rw [HQ.out]; rintro e w_ ⟨rfl, rfl⟩)
              refine hK.out _ _ ?_ (fun hHeld => ?_)
              focus ((try dsimp only); (first | (exact belowDrewN (Below.refl _ _) 1) | (exact Below.via hb_ hHeld hHeld.size) | (exact hHeld) | (exact Below.refl _ _)))
              clear hK K
              try simp only [Act.put, List.setIfInBounds_toArray, List.set_cons_zero, List.set_cons_succ]
              refine H_take (i := 2) (v := ?_) rfl (by kernel_rfl) (by kernel_rfl) (by kernel_rfl) (fun _ _ _ h => h) (by rfl) ?_ (by assumption) ?_
              rotate_left
              focus (intro w hSw; skip; go_simp; first | done | with_reducible rfl | (trace_state; fail))
              try simp only [Act.put, List.setIfInBounds_toArray, List.set_cons_zero, List.set_cons_succ]
              refine H_take (i := 3) (v := ?_) rfl (by kernel_rfl) (by kernel_rfl) (by kernel_rfl) (fun _ _ _ h => h) (by rfl) ?_ (by assumption) ?_
              rotate_left
              focus (intro w hSw; skip; go_simp; first | done | with_reducible rfl | (trace_state; fail))
              try simp only [Act.put, List.setIfInBounds_toArray, List.set_cons_zero, List.set_cons_succ]
              refine H_pass (i := 4) rfl (by kernel_rfl) (by kernel_rfl) (by kernel_rfl) (fun _ _ _ h => h) (by rfl) (by assumption) ?_
              try simp only [Act.put, List.setIfInBounds_toArray, List.set_cons_zero, List.set_cons_succ]
              refine H_pass (i := 5) rfl (by kernel_rfl) (by kernel_rfl) (by kernel_rfl) (fun _ _ _ h => h) (by rfl) (by assumption) ?_
              try simp only [Act.put, List.setIfInBounds_toArray, List.set_cons_zero, List.set_cons_succ]
              refine H_pass (i := 6) rfl (by kernel_rfl) (by kernel_rfl) (by kernel_rfl) (fun _ _ _ h => h) (by rfl) (by assumption) ?_
              try simp only [Act.put, List.setIfInBounds_toArray, List.set_cons_zero, List.set_cons_succ]
              refine H_pass (i := 7) rfl (by kernel_rfl) (by kernel_rfl) (by kernel_rfl) (fun _ _ _ h => h) (by rfl) (by assumption) ?_
              try simp only [Act.put, List.setIfInBounds_toArray, List.set_cons_zero, List.set_cons_succ]
              refine H_pass (i := 8) rfl (by kernel_rfl) (by kernel_rfl) (by kernel_rfl) (fun _ _ _ h => h) (by rfl) (by assumption) ?_
              try simp only [Act.put, List.setIfInBounds_toArray, List.set_cons_zero, List.set_cons_succ]
              refine H_pass (i := 9) rfl (by kernel_rfl) (by kernel_rfl) (by kernel_rfl) (fun _ _ _ h => h) (by rfl) (by assumption) ?_
              try simp only [Act.put, List.setIfInBounds_toArray, List.set_cons_zero, List.set_cons_succ]
              refine H_pass (i := 10) rfl (by kernel_rfl) (by kernel_rfl) (by kernel_rfl) (fun _ _ _ h => h) (by rfl) (by assumption) ?_
              try simp only [Act.put, List.setIfInBounds_toArray, List.set_cons_zero, List.set_cons_succ]
              refine H_pass (i := 11) rfl (by kernel_rfl) (by kernel_rfl) (by kernel_rfl) (fun _ _ _ h => h) (by rfl) (by assumption) ?_
              try simp only [Act.put, List.setIfInBounds_toArray, List.set_cons_zero, List.set_cons_succ]
              refine H_pass (i := 12) rfl (by kernel_rfl) (by kernel_rfl) (by kernel_rfl) (fun _ _ _ h => h) (by rfl) (by assumption) ?_
              try simp only [Act.put, List.setIfInBounds_toArray, List.set_cons_zero, List.set_cons_succ]
              refine H_take (i := 13) (v := ?_) rfl (by kernel_rfl) (by kernel_rfl) (by kernel_rfl) (fun _ _ _ h => h) (by rfl) ?_ (by assumption) ?_
              rotate_left
              focus (intro w hSw; skip; go_simp; first | done | with_reducible rfl | (trace_state; fail))
              try simp only [Act.put, List.setIfInBounds_toArray, List.set_cons_zero, List.set_cons_succ]
              refine wpAnyH_done (by kernel_rfl) ?_ _
              go_wp2_with fail
              go_ret3
              exact ⟨rfl, hHeld⟩
            case true =>
              clear ho1 ho2 hw hidx hUV
              by_cases hpu : putL n = (s.data.toList.drop a).take (j + 1)
              case' pos =>
                have hyes : G = some (n, j + 1) := by rw [← HG.out, ← HN.out]; exact getI_on HV.out (by rw [HN.out]; exact HQ.out) (by rw [HN.out]; exact hpu)
                subst hyes
                have hcmp : (putL n == (s.extract a (a + (j + 1))).toList) = true := by
                  rw [HLS.out] at hpu
                  rw [beq_iff_eq, ByteArray.toList_eq]
                  exact hpu
              case' neg =>
                have hno : G = none := by rw [← HG.out]; exact getI_off HV.out (by rw [HN.out]; exact hpu)
                subst hno
                have hcmp : (putL n == (s.extract a (a + (j + 1))).toList) = false := by
                  rw [HLS.out] at hpu
                  rw [beq_eq_false_iff_ne, ByteArray.toList_eq]
                  exact hpu
              all_goals
                clear hpu HG
                refine wp_region_held_drew (S := (fun W => Below w.heap.size w W)) (by kernel_rfl) ?_ (fun hHeld => ?_)
                focus ((try dsimp only); (first | (exact belowDrewN (Below.refl _ _) 1) | (exact Below.via hb_ hHeld hHeld.size) | (exact hHeld) | (exact Below.refl _ _)))
                refine H_take (i := 0) (v := ?_) rfl (by kernel_rfl) (by kernel_rfl) (by kernel_rfl) (fun _ _ _ h => h) (by rfl) ?_ (by assumption) ?_
                rotate_left
                focus (intro w hSw; skip; go_simp; first | done | with_reducible rfl | (trace_state; fail))
                try simp only [Act.put, List.setIfInBounds_toArray, List.set_cons_zero, List.set_cons_succ]
                refine H_call (i := 1) rfl (by kernel_rfl) (fun K hK => ?_)
                go_simp
                (go_at_call 29; (with_reducible refine Calls.mono (isItem_any _ _) ?_); rw [HQ.out]; rintro e w_ ⟨rfl, rfl⟩)
                refine hK.out _ _ ?_ (fun hHeld => ?_)
                focus ((try dsimp only); (first | (exact belowDrewN (Below.refl _ _) 1) | (exact Below.via hb_ hHeld hHeld.size) | (exact hHeld) | (exact Below.refl _ _)))
                clear hK K
                try simp only [Act.put, List.setIfInBounds_toArray, List.set_cons_zero, List.set_cons_succ]
                refine H_take (i := 2) (v := ?_) rfl (by kernel_rfl) (by kernel_rfl) (by kernel_rfl) (fun _ _ _ h => h) (by rfl) ?_ (by assumption) ?_
                rotate_left
                focus (intro w hSw; skip; go_simp; first | done | with_reducible rfl | (trace_state; fail))
                try simp only [Act.put, List.setIfInBounds_toArray, List.set_cons_zero, List.set_cons_succ]
                refine H_take (i := 3) (v := ?_) rfl (by kernel_rfl) (by kernel_rfl) (by kernel_rfl) (fun _ _ _ h => h) (by rfl) ?_ (by assumption) ?_
                rotate_left
                focus (intro w hSw; skip; go_simp; first | done | with_reducible rfl | (trace_state; fail))
                try simp only [Act.put, List.setIfInBounds_toArray, List.set_cons_zero, List.set_cons_succ]
                refine H_take (i := 4) (v := ?_) rfl (by kernel_rfl) (by kernel_rfl) (by kernel_rfl) (fun _ _ _ h => h) (by rfl) ?_ (by assumption) ?_
                rotate_left
                focus (intro w hSw; skip; go_simp; first | done | with_reducible rfl | (trace_state; fail))
                try simp only [Act.put, List.setIfInBounds_toArray, List.set_cons_zero, List.set_cons_succ]
                refine H_take (i := 7) (v := ?_) rfl (by kernel_rfl) (by kernel_rfl) (by kernel_rfl) (fun _ _ _ h => h) (by rfl) ?_ (by assumption) ?_
                rotate_left
                focus (intro w hSw; skip; go_simp; first | done | with_reducible rfl | (trace_state; fail))
                try simp only [Act.put, List.setIfInBounds_toArray, List.set_cons_zero, List.set_cons_succ]
                refine H_take (i := 8) (v := ?_) rfl (by kernel_rfl) (by kernel_rfl) (by kernel_rfl) (fun _ _ _ h => h) (by rfl) ?_ (by assumption) ?_
                rotate_left
                focus (intro w hSw; skip; go_simp; first | done | with_reducible rfl | (trace_state; fail))
                try simp only [Act.put, List.setIfInBounds_toArray, List.set_cons_zero, List.set_cons_succ]
                refine H_take (i := 9) (v := ?_) rfl (by kernel_rfl) (by kernel_rfl) (by kernel_rfl) (fun _ _ _ h => h) (by rfl) ?_ (by assumption) ?_
                rotate_left
                focus (intro w hSw; skip; go_simp; first | done | with_reducible rfl | (trace_state; fail))
                try simp only [Act.put, List.setIfInBounds_toArray, List.set_cons_zero, List.set_cons_succ]
                refine H_take (i := 10) (v := ?_) rfl (by kernel_rfl) (by kernel_rfl) (by kernel_rfl) (fun _ _ _ h => h) (by rfl) ?_ (by assumption) ?_
                rotate_left
                focus (intro w hSw; skip; go_simp; first | done | with_reducible rfl | (trace_state; fail))
                try simp only [Act.put, List.setIfInBounds_toArray, List.set_cons_zero, List.set_cons_succ]
                refine H_take (i := 11) (v := ?_) rfl (by kernel_rfl) (by kernel_rfl) (by kernel_rfl) (fun _ _ _ h => h) (by rfl) ?_ (by assumption) ?_
                rotate_left
                focus (intro w hSw; skip; go_simp; first | done | with_reducible rfl | (trace_state; fail))
                try simp only [Act.put, List.setIfInBounds_toArray, List.set_cons_zero, List.set_cons_succ]
                refine H_call (i := 5) rfl (by kernel_rfl) (fun K hK => ?_)
                go_simp
                (go_at_call 31; (with_reducible refine Calls.mono (put_any n HQ.out _) ?_); rintro e w2 ⟨v, q2, rfl, hown, hq2, hb_⟩; have hcv := row_string hown 28 5 9 Try.underlying28 Try.underlying5 Try.underlying9; clear hown)
                refine hK.out _ _ ?_ (fun hHeld => ?_)
                focus ((try dsimp only); (first | (exact belowDrewN (Below.refl _ _) 1) | (exact Below.via hb_ hHeld hHeld.size) | (exact hHeld) | (exact Below.refl _ _)))
                clear hK K
                try simp only [Act.put, List.setIfInBounds_toArray, List.set_cons_zero, List.set_cons_succ]
                refine H_call (i := 6) rfl (by kernel_rfl) (fun K hK => ?_)
                go_simp
                skip
                refine hK.out _ _ ?_ (fun hHeld => ?_)
                focus ((try dsimp only); (first | (exact belowDrewN (Below.refl _ _) 1) | (exact Below.via hb_ hHeld hHeld.size) | (exact hHeld) | (exact Below.refl _ _)))
                clear hK K
                try simp only [Act.put, List.setIfInBounds_toArray, List.set_cons_zero, List.set_cons_succ]
                refine H_take (i := 12) (v := ?_) rfl (by kernel_rfl) (by kernel_rfl) (by kernel_rfl) (fun _ _ _ h => h) (by rfl) ?_ (by assumption) ?_
                rotate_left
                focus (intro w hSw; skip; go_simp; first | done | with_reducible rfl | (trace_state; fail))
                try simp only [Act.put, List.setIfInBounds_toArray, List.set_cons_zero, List.set_cons_succ]
                refine H_take (i := 13) (v := ?_) rfl (by kernel_rfl) (by kernel_rfl) (by kernel_rfl) (fun _ _ _ h => h) (by rfl) ?_ (by assumption) ?_
                rotate_left
                focus (intro w hSw; skip; go_simp; first | done | with_reducible rfl | (trace_state; fail))
                try simp only [Act.put, List.setIfInBounds_toArray, List.set_cons_zero, List.set_cons_succ]
                refine wpAnyH_done (by kernel_rfl) ?_ _
                go_wp2_with fail
                go_ret3
                exact ⟨rfl, hHeld⟩
end Go.Proofs.Ytbaimfmepidjcaa
