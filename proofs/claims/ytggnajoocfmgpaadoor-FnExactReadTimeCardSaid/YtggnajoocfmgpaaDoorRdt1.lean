/- Times and their texts: what both readers find. Conditions: the table of powers as it is laid. -/
import Derived.Test.YtggnajoocfmgpaaDoorSplit
import Derived.Test.YtggnajoocfmgpaaDoorTxt3
namespace Go.Proofs.YtggnajoocfmgpaaDoor
set_option linter.unusedSimpArgs false
set_option linter.unusedVariables false
open Go.RowKit Go.WideShapes Go.ChangeShapes

theorem dgt_of {k : Nat} (h : k < 10) : dgt (UInt8.ofNat (48 + k)) = true ∧ ((UInt8.ofNat (48 + k)).toNat : Int) = 48 + k := by
  have : (UInt8.ofNat (48 + k)).toNat = 48 + k := by rw [UInt8.toNat_ofNat', Nat.mod_eq_of_lt (by omega)]
  refine ⟨?_, by omega⟩
  rw [dgt, this, decide_eq_true_eq]; omega
theorem val1 (a : UInt8) : val [a] = (a.toNat : Int) - 48 := by simp [val]
theorem val2 (a b : UInt8) : val [a, b] = 10 * ((a.toNat : Int) - 48) + ((b.toNat : Int) - 48) := by simp [val]
theorem val3 (a b c : UInt8) : val [a, b, c] = 10 * (10 * ((a.toNat : Int) - 48) + ((b.toNat : Int) - 48)) + ((c.toNat : Int) - 48) := by simp [val]
theorem one_form {u : Nat} (h : u < 10) : ∃ a, Lib.itoa (u : Int) = [a] ∧ dgt a = true ∧ val [a] = u := by
  refine ⟨_, by rw [Lib.itoa_nonneg, Lib.decDigits_one h], (dgt_of h).1, ?_⟩
  rw [val1, (dgt_of h).2]; omega
theorem two_dec {u : Nat} (h0 : 10 ≤ u) (h : u < 100) : ∃ a b, Lib.decDigits u = [a, b] ∧ dgt a = true ∧ dgt b = true ∧ val [a, b] = u := by
  have h1 := dgt_of (k := u / 10) (by omega)
  have h2 := dgt_of (k := u % 10) (by omega)
  refine ⟨_, _, Lib.decDigits_two (by omega) h, h1.1, h2.1, ?_⟩
  rw [val2, h1.2, h2.2]; omega
theorem dgt48 : dgt 48 = true := by decide
theorem two_form {u : Nat} (h : u < 100) : ∃ a b, padL 2 (Lib.itoa (u : Int)) = [a, b] ∧ dgt a = true ∧ dgt b = true ∧ val [a, b] = u := by
  by_cases h1 : u < 10
  · obtain ⟨a, e, ha, hv⟩ := one_form h1
    refine ⟨48, a, by rw [e]; rfl, dgt48, ha, ?_⟩
    rw [val1] at hv
    rw [val2]; simp; omega
  · obtain ⟨a, b, e, ha, hb, hv⟩ := two_dec (by omega) h
    exact ⟨a, b, by rw [Lib.itoa_nonneg, e]; rfl, ha, hb, hv⟩
theorem three_form {u : Nat} (h : u < 1000) : ∃ a b c, padL 3 (Lib.itoa (u : Int)) = [a, b, c] ∧ dgt a = true ∧ dgt b = true ∧ dgt c = true ∧ val [a, b, c] = u := by
  by_cases h1 : u < 10
  · obtain ⟨a, e, ha, hv⟩ := one_form h1
    refine ⟨48, 48, a, by rw [e]; rfl, dgt48, dgt48, ha, ?_⟩
    rw [val1] at hv
    rw [val3]; simp; omega
  · by_cases h2 : u < 100
    · obtain ⟨a, b, e, ha, hb, hv⟩ := two_dec (by omega) h2
      refine ⟨48, a, b, by rw [Lib.itoa_nonneg, e]; rfl, dgt48, ha, hb, ?_⟩
      rw [val2] at hv
      rw [val3]; simp; omega
    · obtain ⟨a, b, e, ha, hb, hv⟩ := two_dec (u := u / 10) (by omega) (by omega)
      have h3 := dgt_of (k := u % 10) (by omega)
      refine ⟨a, b, UInt8.ofNat (48 + u % 10), ?_, ha, hb, h3.1, ?_⟩
      · rw [Lib.itoa_nonneg, Lib.decDigits, dif_neg (by omega), e]; rfl
      · rw [val2] at hv
        rw [val3, h3.2]; omega
/-- The text of a time, byte for byte. -/
theorem time_form {n : Int} (h0 : 0 ≤ n) (h1 : n ≤ 36000000) : ∃ H a b c d e f g, (timeT n).data.toList = H ++ 58 :: a :: b :: 58 :: c :: d :: 46 :: e :: f :: [g] ∧ ((∃ x, H = [x]) ∨ (∃ x y, H = [x, y])) ∧ (∀ x ∈ H, dgt x = true) ∧ dgt a = true ∧ dgt b = true ∧ dgt c = true ∧ dgt d = true ∧ dgt e = true ∧ dgt f = true ∧ dgt g = true ∧ val H * 3600000 + val [a, b] * 60000 + val [c, d] * 1000 + val [e, f, g] = n := by
  obtain ⟨u, rfl⟩ := Int.eq_ofNat_of_zero_le h0
  obtain ⟨a, b, e1, ha, hb, v1⟩ := two_form (u := u / 60000 % 60) (by omega)
  obtain ⟨c, d, e2, hc, hd, v2⟩ := two_form (u := u / 1000 % 60) (by omega)
  obtain ⟨e, f, g, e3, he, hf, hg, v3⟩ := three_form (u := u % 1000) (by omega)
  have hL : (timeT (u : Int)).data.toList = Lib.itoa ((u : Int) / 3600000) ++ 58 :: (padL 2 (Lib.itoa ((u : Int) / 60000 % 60)) ++ 58 :: (padL 2 (Lib.itoa ((u : Int) / 1000 % 60)) ++ 46 :: padL 3 (Lib.itoa ((u : Int) % 1000)))) := by
    simp [timeT, decS, padS, ByteArray.data_append, List.append_assoc]
  have q1 : (u : Int) / 60000 % 60 = ((u / 60000 % 60 : Nat) : Int) := by omega
  have q2 : (u : Int) / 1000 % 60 = ((u / 1000 % 60 : Nat) : Int) := by omega
  have q3 : (u : Int) % 1000 = ((u % 1000 : Nat) : Int) := by omega
  have q4 : (u : Int) / 3600000 = ((u / 3600000 : Nat) : Int) := by omega
  rw [q1, q2, q3, q4, e1, e2, e3] at hL
  by_cases h10 : u / 3600000 < 10
  · obtain ⟨x, ex, hx, vx⟩ := one_form h10
    rw [ex] at hL
    refine ⟨[x], a, b, c, d, e, f, g, hL, Or.inl ⟨x, rfl⟩, fun y hy => by rw [List.mem_singleton.1 hy]; exact hx, ha, hb, hc, hd, he, hf, hg, ?_⟩
    rw [vx, v1, v2, v3]; omega
  · obtain ⟨x, y, ex, hx, hy, vx⟩ := two_dec (u := u / 3600000) (by omega) (by omega)
    rw [Lib.itoa_nonneg, ex] at hL
    refine ⟨[x, y], a, b, c, d, e, f, g, hL, Or.inr ⟨x, y, rfl⟩, fun z hz => by rcases List.mem_cons.1 hz with rfl | hz; exact hx; rw [List.mem_singleton.1 hz]; exact hy, ha, hb, hc, hd, he, hf, hg, ?_⟩
    rw [vx, v1, v2, v3]; omega
def digW (l : List UInt8) : Bool := decide (l.length ≤ 5) && l.all dgt
/-- What the program's reader finds. -/
def pIb (l : List UInt8) : Bool := digW (cutL 58 l).1 && digW (cutL 58 (cutL 58 l).2.1).1 && digW (cutL 46 (cutL 58 (cutL 58 l).2.1).2.1).1 && digW (cutL 46 (cutL 58 (cutL 58 l).2.1).2.1).2.1
def pIv (l : List UInt8) : Int := val (cutL 58 l).1 * 3600000 + val (cutL 58 (cutL 58 l).2.1).1 * 60000 + val (cutL 46 (cutL 58 (cutL 58 l).2.1).2.1).1 * 1000 + val (cutL 46 (cutL 58 (cutL 58 l).2.1).2.1).2.1
theorem dgt_ne {x c : UInt8} (h : dgt x = true) (hc : dgt c = false) : x ≠ c := by rintro rfl; rw [hc] at h; exact absurd h (by decide)
theorem pI_time {n : Int} (h0 : 0 ≤ n) (h1 : n ≤ 36000000) : pIb (timeT n).data.toList = true ∧ pIv (timeT n).data.toList = n := by
  obtain ⟨H, a, b, c, d, e, f, g, hL, hH, hHd, ha, hb, hc, hd, he, hf, hg, hv⟩ := time_form h0 h1
  have c1 : cutL 58 (timeT n).data.toList = (H, a :: b :: 58 :: c :: d :: 46 :: e :: f :: [g], true) := by
    rw [hL]; exact cutL_hit _ (fun x hx => dgt_ne (hHd x hx) (by decide))
  have c2 : cutL 58 (a :: b :: 58 :: c :: d :: 46 :: e :: f :: [g]) = ([a, b], c :: d :: 46 :: e :: f :: [g], true) :=
    cutL_hit (a := [a, b]) _ (fun x hx => by rcases List.mem_cons.1 hx with rfl | hx; exact dgt_ne ha (by decide); rw [List.mem_singleton.1 hx]; exact dgt_ne hb (by decide))
  have c3 : cutL 46 (c :: d :: 46 :: e :: f :: [g]) = ([c, d], [e, f, g], true) :=
    cutL_hit (a := [c, d]) _ (fun x hx => by rcases List.mem_cons.1 hx with rfl | hx; exact dgt_ne hc (by decide); rw [List.mem_singleton.1 hx]; exact dgt_ne hd (by decide))
  have hHw : digW H = true := by
    rw [digW, List.all_eq_true.2 hHd, Bool.and_true, decide_eq_true_eq]
    rcases hH with ⟨x, rfl⟩ | ⟨x, y, rfl⟩ <;> simp
  rw [pIb, pIv, c1]
  simp only [c2, c3]
  refine ⟨?_, hv⟩
  rw [hHw]
  simp [digW, ha, hb, hc, hd, he, hf, hg]
def rdT (s : ByteArray) : Int × Bool := if pIb s.data.toList = true ∧ timeX (pIv s.data.toList) = s then (pIv s.data.toList, true) else (0, false)
theorem timeX_in {n : Int} (h0 : 0 ≤ n) (h1 : n ≤ 36000000) : timeX n = timeT n := by rw [timeX, tB, inB_t h0 h1]; rfl
theorem rdT_yes {n : Int} {s : ByteArray} (h0 : 0 ≤ n) (h1 : n ≤ 36000000) (h : timeT n = s) : rdT s = (n, true) := by
  subst h
  obtain ⟨h2, h3⟩ := pI_time h0 h1
  rw [rdT, if_pos ⟨h2, by rw [h3]; exact timeX_in h0 h1⟩, h3]
theorem rdT_no {s : ByteArray} (h : ∀ n : Int, 0 ≤ n → n ≤ 36000000 → timeT n ≠ s) : rdT s = (0, false) := by
  rw [rdT, if_neg]
  rintro ⟨h1, h2⟩
  cases q : tB (pIv s.data.toList)
  · rw [timeX, q] at h2
    have h3 : (⟨#[]⟩ : ByteArray) = s := h2
    subst h3
    rw [show pIv (⟨#[]⟩ : ByteArray).data.toList = 0 from rfl] at q
    exact absurd q (by decide)
  · have h3 := tB_bd q
    exact h _ h3.1 h3.2 (by rw [← timeX_in h3.1 h3.2]; exact h2)
theorem rdT_acc {s : ByteArray} (h1 : pIb s.data.toList = true) (h2 : timeX (pIv s.data.toList) = s) : rdT s = (pIv s.data.toList, true) := by rw [rdT, if_pos ⟨h1, h2⟩]
theorem rdT_rej {s : ByteArray} (h : ¬ (pIb s.data.toList = true ∧ timeX (pIv s.data.toList) = s)) : rdT s = (0, false) := by rw [rdT, if_neg h]
/-- What the reference's reader finds in a time's text. -/
def digV (l : List UInt8) : Int := if l.all dgt then val l else -1
theorem pS_time {n : Int} {s : ByteArray} (h0 : 0 ≤ n) (h1 : n ≤ 36000000) (h : timeT n = s) : (s.size = 11 ∨ s.size = 12) ∧ ((digV (s.extract 0 (s.size - 10)).data.toList * 60 + digV ((s.extract (s.size - 11) s.size).extract 2 4).data.toList) * 60 + digV ((s.extract (s.size - 11) s.size).extract 5 7).data.toList) * 1000 + digV ((s.extract (s.size - 11) s.size).extract 8 11).data.toList = n ∧ 0 ≤ digV (s.extract 0 (s.size - 10)).data.toList ∧ 0 ≤ digV ((s.extract (s.size - 11) s.size).extract 2 4).data.toList ∧ 0 ≤ digV ((s.extract (s.size - 11) s.size).extract 5 7).data.toList ∧ 0 ≤ digV ((s.extract (s.size - 11) s.size).extract 8 11).data.toList := by
  obtain ⟨H, a, b, c, d, e, f, g, hL, hH, hHd, ha, hb, hc, hd, he, hf, hg, hv⟩ := time_form h0 h1
  rw [h] at hL
  have hz := ba_len s
  have hd2 : ∀ l : List UInt8, (∀ x ∈ l, dgt x = true) → digV l = val l ∧ 0 ≤ val l := fun l hl => ⟨by rw [digV, if_pos (List.all_eq_true.2 hl)], (val_bd _ l rfl hl).1⟩
  have x2 : ∀ p q : UInt8, dgt p = true → dgt q = true → ∀ x ∈ [p, q], dgt x = true := fun p q hp hq x hx => by rcases List.mem_cons.1 hx with rfl | hx; exact hp; rw [List.mem_singleton.1 hx]; exact hq
  have x3 : ∀ x ∈ [e, f, g], dgt x = true := fun x hx => by rcases List.mem_cons.1 hx with rfl | hx; exact he; exact x2 f g hf hg x hx
  have k1 := hd2 _ (x2 a b ha hb)
  have k2 := hd2 _ (x2 c d hc hd)
  have k3 := hd2 _ x3
  have k0 := hd2 _ hHd
  rcases hH with ⟨x, rfl⟩ | ⟨x, y, rfl⟩
  · have hsz : s.size = 11 := by rw [← hz, hL]; rfl
    have e0 : (s.extract 0 (s.size - 10)).data.toList = [x] := by rw [ext_list, hL, hsz]; rfl
    have et : (s.extract (s.size - 11) s.size).data.toList = [x, 58, a, b, 58, c, d, 46, e, f, g] := by rw [ext_list, hL, hsz]; rfl
    have e1 : ((s.extract (s.size - 11) s.size).extract 2 4).data.toList = [a, b] := by rw [ext_list, et]; rfl
    have e2 : ((s.extract (s.size - 11) s.size).extract 5 7).data.toList = [c, d] := by rw [ext_list, et]; rfl
    have e3 : ((s.extract (s.size - 11) s.size).extract 8 11).data.toList = [e, f, g] := by rw [ext_list, et]; rfl
    rw [e0, e1, e2, e3, k0.1, k1.1, k2.1, k3.1]
    exact ⟨Or.inl hsz, by omega, k0.2, k1.2, k2.2, k3.2⟩
  · have hsz : s.size = 12 := by rw [← hz, hL]; rfl
    have e0 : (s.extract 0 (s.size - 10)).data.toList = [x, y] := by rw [ext_list, hL, hsz]; rfl
    have et : (s.extract (s.size - 11) s.size).data.toList = [y, 58, a, b, 58, c, d, 46, e, f, g] := by rw [ext_list, hL, hsz]; rfl
    have e1 : ((s.extract (s.size - 11) s.size).extract 2 4).data.toList = [a, b] := by rw [ext_list, et]; rfl
    have e2 : ((s.extract (s.size - 11) s.size).extract 5 7).data.toList = [c, d] := by rw [ext_list, et]; rfl
    have e3 : ((s.extract (s.size - 11) s.size).extract 8 11).data.toList = [e, f, g] := by rw [ext_list, et]; rfl
    rw [e0, e1, e2, e3, k0.1, k1.1, k2.1, k3.1]
    exact ⟨Or.inr hsz, by omega, k0.2, k1.2, k2.2, k3.2⟩
theorem digV_bd {l : List UInt8} {k : Nat} (h : l.length ≤ k) : -1 ≤ digV l ∧ digV l < (10 ^ k : Nat) := by
  rw [digV]
  split
  · rename_i h2
    have := val_le l k (List.all_eq_true.1 h2) h
    omega
  · have : 0 < 10 ^ k := Nat.pow_pos (by omega)
    omega
theorem digV_no {l : List UInt8} {c : UInt8} (hc : c ∈ l) (h : dgt c = false) : digV l = -1 := by
  rw [digV, if_neg]
  intro h2
  have := List.all_eq_true.1 h2 c hc
  rw [h] at this
  exact absurd this (by decide)
theorem digV_yes {l : List UInt8} (h : ∀ c ∈ l, dgt c = true) : digV l = val l := by rw [digV, if_pos (List.all_eq_true.2 h)]
set_option maxHeartbeats 2000000 in
theorem l23Digits_any (s : ByteArray) (v : Int) (hv : digV s.data.toList = v) (hs : s.size ≤ 12) (w : World) :
    Calls Tryd.prog 54 #[.string s] w fun e w' => e = .returned (.int .i64 v) ∧ w = w' := by
  have HV := Lib.hid hv
  clear hv
  go_enter Tryd.func54, Tryd.ntmps54
  go_wp2_with fail
  go_loopw [3, 4] (fun nv i wr => ∃ k : Nat, k ≤ s.size ∧ i = .int .i64 k ∧ nv = .int .i64 (val (s.data.toList.take k)) ∧ Hid (∀ c ∈ s.data.toList.take k, dgt c = true) ∧ w = wr) (fun _ i _ => s.size - (intOf i).toNat)
  case atStart => exact ⟨0, Nat.zero_le _, rfl, rfl, by unfold Hid; simp, rfl⟩
  case round =>
    obtain ⟨k, hk, rfl, rfl, hall, rfl⟩ := hrel
    obtain ⟨v0, hv0⟩ : ∃ v, val (s.data.toList.take k) = v := ⟨_, rfl⟩
    have hvb := val_le (s.data.toList.take k) k hall.out (by rw [List.length_take]; omega)
    rw [hv0] at hvb
    rw [hv0]
    have HV0 := Lib.hid hv0
    clear hv0
    by_cases hlt : k < s.size
    · have hv1 : v0 ≤ 999999999999 := by
        have h2 : 10 ^ k ≤ 10 ^ 12 := Nat.pow_le_pow_right (by omega) (by omega)
        omega
      have hv0 := hvb.1
      clear hvb
      obtain ⟨c, hidx⟩ : ∃ c, s[k] = c := ⟨_, rfl⟩
      have HM := Lib.hid (mem_at s k hlt)
      have HT := Lib.hid (take_snocB s k hlt)
      rw [hidx] at HM HT
      obtain ⟨z, hz⟩ : ∃ z : Int, (c.toNat : Int) = z := ⟨_, rfl⟩
      have HZ := Lib.hid hz
      have hz0 : 0 ≤ z := by omega
      cases hd : dgt c
      case false =>
        have HE := Lib.hid ((digV_no HM.out hd).symm.trans HV.out)
        have hzz : z < 48 ∨ 57 < z := by
          simp only [dgt, decide_eq_false_iff_not] at hd
          omega
        clear hd
        rcases hzz with hzz | hzz
        · have hd1 : decide (z < 48) = true := decide_eq_true hzz
          go_wp2_with fail
          go_ret
          exact ⟨by rw [← HE.out]; rfl, rfl⟩
        · have hd1 : decide (z < 48) = false := decide_eq_false (by omega)
          have hd2 : decide (57 < z) = true := decide_eq_true hzz
          go_wp2_with fail
          go_ret
          exact ⟨by rw [← HE.out]; rfl, rfl⟩
      case true =>
        obtain ⟨hc1, hc2⟩ := dgt_t hd
        rw [hz] at hc1 hc2
        have HGD := Lib.hid hd
        have hd1 : decide (z < 48) = false := decide_eq_false (by omega)
        have hd2 : decide (57 < z) = false := decide_eq_false (by omega)
        clear hd
        go_wp2_with fail
        go_roundw
        case rel => exact ⟨k + 1, by omega, by go_num, by rw [HT.out, val_snoc, HV0.out, HZ.out], by unfold Hid; rw [HT.out]; intro d hd; rcases List.mem_append.1 hd with h | h; exact hall.out d h; rw [List.mem_singleton.1 h]; exact HGD.out, by first | trivial | rfl⟩
        case measure => first | (simp [intOf]; done) | (simp [intOf]; omega)
    · obtain rfl : k = s.size := by omega
      have htake : s.data.toList.take s.size = s.data.toList := List.take_of_length_le (by rw [ba_len]; exact Nat.le_refl _)
      have h2 := hall.out
      have h3 := HV0.out
      rw [htake] at h2 h3
      have HE : Hid (v0 = v) := by unfold Hid; rw [← h3, ← HV.out, digV_yes h2]
      clear h2 h3 htake hvb
      go_wp2_with fail
      go_ret
      exact ⟨by rw [← HE.out]; rfl, rfl⟩
end Go.Proofs.YtggnajoocfmgpaaDoor
