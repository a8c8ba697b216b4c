/- Numbers read from bytes, by the reference. Conditions: a place within the text. -/
import Derived.Test.YtbaimfmepidjcaaPack2
namespace Go.Proofs.Ytbaimfmepidjcaa
set_option linter.unusedSimpArgs false
set_option linter.unusedVariables false
open Go.RowKit Go.WideShapes

def getT (r : Option (Int × Nat)) (a : Nat) (e : Ending) : Prop := match r with
  | some (n, k) => e = .returned (.tuple #[.int .i64 n, .int .i64 ((a + k : Nat) : Int), .bool true])
  | none => ∃ x y : Int, e = .returned (.tuple #[.int .i64 x, .int .i64 y, .bool false])
theorem getS_none {l : List UInt8} (h : decU 5 l = none) : getS l = none := by rw [getS, h]
theorem getS_bad {l : List UInt8} {u k : Nat} (h : decU 5 l = some (u, k)) (hi : isItemR (unzig u) = false) : getS l = none := by rw [getS, h]; simp [hi]
theorem getS_zero {l : List UInt8} {u k : Nat} (h : decU 5 l = some (u, k + 1)) (hk : 0 < k) (hz : l.getD k 0 = 0) : getS l = none := by
  rw [getS, h]
  simp only [Nat.add_sub_cancel, hz]
  rw [if_neg]
  simp
  omega
theorem getS_on {l : List UInt8} {u k : Nat} (h : decU 5 l = some (u, k + 1)) (hi : isItemR (unzig u) = true) (hz : k = 0 ∨ l.getD k 0 ≠ 0) : getS l = some (unzig u, k + 1) := by
  rw [getS, h]
  simp only [Nat.add_sub_cancel]
  rw [if_pos]
  rw [Bool.and_eq_true, Bool.or_eq_true, decide_eq_true_eq, Bool.not_eq_true', beq_eq_false_iff_ne]
  exact ⟨hz.imp (by omega) id, hi⟩
theorem getD_drop (s : ByteArray) (a j : Nat) (h : a + j < s.size) : (s.data.toList.drop a).getD j 0 = s[a + j] := by
  rw [List.getD_eq_getElem?_getD, List.getElem?_drop, List.getElem?_eq_getElem (by simpa using h)]
  rfl
set_option maxRecDepth 100000 in
set_option maxHeartbeats 4000000 in
theorem l14Get_any (s : ByteArray) (a : Nat) (w : World) (ha : a ≤ s.size) (hs : s.size ≤ 1073741824) : Calls Try.prog 40 #[.string s, .int .i64 a] w fun e w' => getT (getS (s.data.toList.drop a)) a e ∧ w = w' := by
  obtain ⟨G, hG⟩ : ∃ G, getS (s.data.toList.drop a) = G := ⟨_, rfl⟩
  have HG := Lib.hid hG
  rw [hG]
  clear hG
  go_enter Try.func40, Try.ntmps40
  go_wp2
  go_loop [7, 8, 9] (fun u n i => ∃ j U m : Nat, j ≤ 4 ∧ a + j ≤ s.size ∧ i = .int .i64 ((a : Int) + (j : Int)) ∧ u = .int .i64 U ∧ n = .int .i64 m ∧ U < m ∧ m * 128 ^ (5 - j) = 34359738368 ∧ Hid (decU 5 (s.data.toList.drop a) = accU j U m (decU (5 - j) (s.data.toList.drop (a + j))))) (fun _ _ i => s.size - (intOf i).toNat)
  case atStart => exact ⟨0, 0, 1, by omega, by omega, by simp, rfl, rfl, by omega, by decide, by unfold Hid; rw [accU_zero]; rfl⟩
  case round =>
    obtain ⟨j, U, m, hj, haj, rfl, rfl, rfl, hU, hm, HR⟩ := hrel
    have e4 : 5 - j = (4 - j) + 1 := by omega
    have hm1 : m ≤ 268435456 := by
      rw [e4, Nat.pow_succ, ← Nat.mul_assoc] at hm
      have h2 : m ≤ m * 128 ^ (4 - j) := Nat.le_mul_of_pos_right _ (Nat.pow_pos (by omega))
      omega
    have HM := Lib.hid hm
    clear hm
    by_cases hlt : a + j < s.size
    case neg =>
      have hno : G = none := by rw [← HG.out]; exact getS_none (by rw [HR.out]; exact accU_end (Or.inr (by apply List.drop_eq_nil_of_le; simp; omega)))
      subst hno
      go_wp2
      go_ret3
      exact ⟨⟨_, _, rfl⟩, rfl⟩
    case pos =>
      have HD : Hid (s.data.toList.drop (a + j) = s[a + j] :: s.data.toList.drop (a + (j + 1))) := drop_cons s (a + j) hlt
      have HZ := Lib.hid (getD_drop s a j hlt)
      obtain ⟨b, hb⟩ : ∃ b, s[a + j] = b := ⟨_, rfl⟩
      have hb2 : b.toNat < 256 := b.toNat_lt
      have hidx : s[(a + j)] = b := hb
      rw [hb] at HZ
      obtain ⟨p, hp⟩ : ∃ p, b.toNat % 128 * m = p := ⟨_, rfl⟩
      have hpb : p ≤ 34091302912 := by rw [← hp]; exact Nat.le_trans (Nat.mul_le_mul (show b.toNat % 128 ≤ 127 by omega) hm1) (by decide)
      by_cases hbig : 128 ≤ b.toNat
      case pos =>
        have hb1 : (128 : Int) ≤ (b.toNat : Int) := by omega
        by_cases hj4 : j = 4
        case pos =>
          subst hj4
          have hno : G = none := by
            rw [← HG.out]
            refine getS_none ?_
            rw [HR.out, HD.out, hb]
            show accU 4 U m (decU (0 + 1) _) = none
            rw [accU_big hbig]
            exact accU_end (Or.inl rfl)
          subst hno
          clear hp hb HD HR HM HG
          go_wp2
          go_ret3
          exact ⟨⟨_, _, rfl⟩, rfl⟩
        case neg =>
          have HN : Hid (decU 5 (s.data.toList.drop a) = accU (j + 1) (U + p) (m * 128) (decU (5 - (j + 1)) (s.data.toList.drop (a + (j + 1))))) := by
            unfold Hid
            rw [HR.out, HD.out, hb, e4, accU_big hbig, hp, show 4 - j = 5 - (j + 1) from by omega]
          have HM2 : Hid (m * 128 * 128 ^ (5 - (j + 1)) = 34359738368) := by
            unfold Hid
            have h1 := HM.out
            rw [e4, Nat.pow_succ] at h1
            rw [show 5 - (j + 1) = 4 - j from by omega, Nat.mul_assoc, Nat.mul_comm 128]
            exact h1
          have HP : Hid (U + p < m * 128) := by
            unfold Hid
            rw [← hp]
            have h1 : b.toNat % 128 * m ≤ 127 * m := Nat.mul_le_mul_right _ (by omega)
            omega
          have hw : IntKind.i64.wrap ((m : Int) * ((b.toNat : Int) - 128)) = (p : Int) := by
            have e : ((m : Int) * ((b.toNat : Int) - 128)) = (p : Int) := by
              rw [← hp, show b.toNat % 128 = b.toNat - 128 from by omega, Int.natCast_mul, Int.mul_comm]
              congr 1
              omega
            rw [e]; exact IntWalk.i64_in _ (by omega)
          clear hp hb HD HR HM e4
          go_wp2
          go_round
          case rel => exact ⟨j + 1, U + p, m * 128, by omega, by omega, by go_num, by go_num, by go_num, HP.out, HM2.out, HN⟩
          case measure => simp [intOf]; omega
      case neg =>
        have HV : Hid (decU 5 (s.data.toList.drop a) = some (U + p, j + 1)) := by
          unfold Hid
          rw [HR.out, HD.out, hb, e4, accU_small (by omega), hp]
        have hb1 : ¬ (128 : Int) ≤ (b.toNat : Int) := by omega
        have hw : IntKind.i64.wrap ((m : Int) * (b.toNat : Int)) = (p : Int) := by
          have e : ((m : Int) * (b.toNat : Int)) = (p : Int) := by
            rw [← hp, Nat.mod_eq_of_lt (by omega), Int.natCast_mul, Int.mul_comm]
          rw [e]; exact IntWalk.i64_in _ (by omega)
        by_cases hz : 0 < j ∧ b.toNat = 0
        case pos =>
          obtain ⟨hz1, hz2⟩ := hz
          have hb0 : b = 0 := by rw [← UInt8.toNat_inj]; exact hz2
          have hno : G = none := by rw [← HG.out]; exact getS_zero HV.out hz1 (by rw [HZ.out, hb0])
          subst hno
          have hz3 : (b.toNat : Int) = 0 := by omega
          clear hp hb HD HR HM e4 HG HZ hw hb0 hz2
          go_wp2
          go_ret3
          exact ⟨⟨_, _, rfl⟩, rfl⟩
        case neg =>
          have HZ2 : Hid (j = 0 ∨ (s.data.toList.drop a).getD j 0 ≠ 0) := by
            rcases Nat.eq_zero_or_pos j with h0 | h0
            · exact Or.inl h0
            · refine Or.inr ?_
              rw [HZ.out]
              intro hc
              exact hz ⟨h0, by rw [hc]; rfl⟩
          clear hp hb HD HR HM e4 HZ
          obtain ⟨V, hV⟩ : ∃ V, U + p = V := ⟨_, rfl⟩
          have hUV : ((U : Int) + (p : Int)) = (V : Int) := by omega
          have hVb : V ≤ 1000000000000 := by omega
          rw [hV] at HV
          obtain ⟨n, hn⟩ : ∃ n, unzig V = n := ⟨_, rfl⟩
          have HN := Lib.hid hn
          rw [unzig] at hn
          have hnb : -1000000000000 ≤ n ∧ n ≤ 1000000000000 := by rw [← hn]; split <;> omega
          obtain ⟨q, hq⟩ : ∃ q, isItemR n = q := ⟨_, rfl⟩
          have HQ := Lib.hid hq
          clear hq
          have hzz : j ≤ 0 ∨ (0 < j ∧ ((b.toNat : Int) == 0) = false) := by
            rcases Nat.eq_zero_or_pos j with h0 | h0
            · exact Or.inl (by omega)
            · exact Or.inr ⟨h0, by rw [beq_eq_false_iff_ne]; omega⟩
          by_cases hodd : V % 2 = 1
          case' pos =>
            rw [if_pos hodd] at hn
            have ho1 : (((V : Int) % 2) == 1) = true := by rw [beq_iff_eq]; omega
            have ho2 : Int.tdiv (-((V : Int) + 1)) 2 = n := by rw [← hn, Int.neg_tdiv, Int.tdiv_eq_ediv_of_nonneg (by omega)]; omega
          case' neg =>
            rw [if_neg hodd] at hn
            have ho1 : (((V : Int) % 2) == 1) = false := by rw [beq_eq_false_iff_ne]; omega
            have ho2 : ((V : Int) / 2) = n := by rw [← hn]; omega
          all_goals
            clear hn hz
            rcases hzz with h0 | ⟨h0, h00⟩
            all_goals
              cases q
              case' false =>
                have hno : G = none := by rw [← HG.out]; exact getS_bad HV.out (by rw [HN.out]; exact HQ.out)
                subst hno
              case' true =>
                have hyes : G = some (n, j + 1) := by rw [← HG.out, ← HN.out]; exact getS_on HV.out (by rw [HN.out]; exact HQ.out) HZ2.out
                subst hyes
              all_goals
                clear HG
                go_wp2_with (go_at_call 36; refine (l14Item_any _ _).mono ?_; rintro e w_ ⟨rfl, rfl⟩; rw [HQ.out])
                go_ret3
                first | exact ⟨rfl, rfl⟩ | exact ⟨⟨_, _, rfl⟩, rfl⟩ | (refine ⟨?_, rfl⟩; show Ending.returned _ = Ending.returned _; congr 3; omega)
end Go.Proofs.Ytbaimfmepidjcaa
