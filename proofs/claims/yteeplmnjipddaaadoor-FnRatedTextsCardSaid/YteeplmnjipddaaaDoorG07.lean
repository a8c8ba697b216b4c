/- Numbers read from their decimal forms, by both functions. Conditions: the table of powers as it is laid. -/
import Derived.Test.YteeplmnjipddaaaDoorG04
import Derived.Deep.DeepCutAuto
import Derived.Laws.DeepStrings4
import Derived.Laws.Strings3
namespace Go.Proofs.YteeplmnjipddaaaDoor
set_option linter.unusedSimpArgs false
set_option linter.unusedVariables false
open Go.RowKit Go.WideShapes

def dgt (c : UInt8) : Bool := decide (48 ≤ c.toNat ∧ c.toNat ≤ 57)
theorem dgt_t {c : UInt8} (h : dgt c = true) : 48 ≤ (c.toNat : Int) ∧ (c.toNat : Int) ≤ 57 := by
  simp only [dgt, decide_eq_true_eq] at h; omega
theorem isDigit_any (c : UInt8) (r : Bool) (h : dgt c = r) (w : World) : Calls Tryd.prog 38 #[.int .u8 (c.toNat : Int)] w fun e w' => e = .returned (.bool r) ∧ w = w' := by
  obtain ⟨z, hz⟩ : ∃ z, c.toNat = z := ⟨_, rfl⟩
  have hr : r = decide (48 ≤ z ∧ z ≤ 57) := by rw [← h, dgt, hz]
  rw [hz]
  clear h hz
  by_cases hq : (48 : Int) ≤ (z : Nat) ∧ ((z : Nat) : Int) ≤ 57
  · have hr2 : r = true := by rw [hr]; exact decide_eq_true (by omega)
    subst hr2
    obtain ⟨h1, h2⟩ := hq
    clear hr
    go_enter Tryd.func38, Tryd.ntmps38
    go_wp2
    go_ret
    exact ⟨rfl, rfl⟩
  · have hr2 : r = false := by rw [hr]; exact decide_eq_false (by omega)
    subst hr2
    clear hr
    by_cases h1 : (48 : Int) ≤ (z : Nat)
    · have h2 : (57 : Int) < (z : Nat) := by omega
      have h3 : decide (((z : Nat) : Int) ≤ 57) = false := decide_eq_false (by omega)
      clear hq
      go_enter Tryd.func38, Tryd.ntmps38
      go_wp2
      go_ret
      exact ⟨rfl, rfl⟩
    · clear hq
      go_enter Tryd.func38, Tryd.ntmps38
      go_wp2
      go_ret
      exact ⟨rfl, rfl⟩
theorem l01Digit_any (c : UInt8) (r : Bool) (h : dgt c = r) (w : World) : Calls Tryd.prog 41 #[.int .u8 (c.toNat : Int)] w fun e w' => e = .returned (.bool r) ∧ w = w' := by
  obtain ⟨z, hz⟩ : ∃ z, c.toNat = z := ⟨_, rfl⟩
  have hr : r = decide (48 ≤ z ∧ z ≤ 57) := by rw [← h, dgt, hz]
  rw [hz]
  clear h hz
  by_cases hq : (48 : Int) ≤ (z : Nat) ∧ ((z : Nat) : Int) ≤ 57
  · have hr2 : r = true := by rw [hr]; exact decide_eq_true (by omega)
    subst hr2
    obtain ⟨h1, h2⟩ := hq
    clear hr
    go_enter Tryd.func41, Tryd.ntmps41
    go_wp2
    go_ret
    exact ⟨rfl, rfl⟩
  · have hr2 : r = false := by rw [hr]; exact decide_eq_false (by omega)
    subst hr2
    clear hr
    by_cases h1 : (48 : Int) ≤ (z : Nat)
    · have h2 : (57 : Int) < (z : Nat) := by omega
      have h3 : decide (((z : Nat) : Int) ≤ 57) = false := decide_eq_false (by omega)
      clear hq
      go_enter Tryd.func41, Tryd.ntmps41
      go_wp2
      go_ret
      exact ⟨rfl, rfl⟩
    · clear hq
      go_enter Tryd.func41, Tryd.ntmps41
      go_wp2
      go_ret
      exact ⟨rfl, rfl⟩
def val (l : List UInt8) : Int := l.foldl (fun (n : Int) c => 10 * n + ((c.toNat : Int) - 48)) 0
theorem val_snoc (l : List UInt8) (c : UInt8) : val (l ++ [c]) = 10 * val l + ((c.toNat : Int) - 48) := by rw [val, List.foldl_append]; rfl
theorem val_bd : ∀ (n : Nat) (l : List UInt8), l.length = n → (∀ c ∈ l, dgt c = true) → 0 ≤ val l ∧ val l < (10 ^ n : Nat)
  | 0, l, h, _ => by
    rw [List.eq_nil_of_length_eq_zero h]
    simp [val]
  | n + 1, l, h, ha => by
    rcases List.eq_nil_or_concat l with rfl | ⟨L, c, rfl⟩
    · simp at h
    · rw [List.concat_eq_append] at h ha ⊢
      have h1 := val_bd n L (by simpa using h) (fun d hd => ha d (List.mem_append_left _ hd))
      have h2 := dgt_t (ha c (List.mem_append_right _ (List.mem_singleton.2 rfl)))
      rw [val_snoc, Nat.pow_succ]
      omega
theorem val_le (l : List UInt8) (k : Nat) (h : ∀ c ∈ l, dgt c = true) (hk : l.length ≤ k) : 0 ≤ val l ∧ val l < (10 ^ k : Nat) := by
  have h1 := val_bd l.length l rfl h
  have h2 : 10 ^ l.length ≤ 10 ^ k := Nat.pow_le_pow_right (by omega) hk
  omega
def bodyL : List UInt8 → List UInt8
  | [] => []
  | c :: r => if c = 45 then r else c :: r
def sgn (b : Bool) (v : Int) : Int := if b then -v else v
def numL (s : ByteArray) (t : List UInt8) (b : Bool) : Int × Bool :=
  if 1 ≤ t.length ∧ t.length ≤ 18 ∧ t.all dgt = true then (if decS (sgn b (val t)) = s then (sgn b (val t), true) else (0, false)) else (0, false)
def numR (s : ByteArray) : Int × Bool := numL s (bodyL s.data.toList) (decide ((bodyL s.data.toList).length < s.data.toList.length))
theorem numL_len {s : ByteArray} {t : List UInt8} {b : Bool} (h : ¬ (1 ≤ t.length ∧ t.length ≤ 18)) : numL s t b = (0, false) := by rw [numL, if_neg (fun h2 => h ⟨h2.1, h2.2.1⟩)]
theorem numL_bad {s : ByteArray} {t : List UInt8} {b : Bool} {c : UInt8} (hc : c ∈ t) (h : dgt c = false) : numL s t b = (0, false) := by
  rw [numL, if_neg]
  rintro ⟨_, _, h2⟩
  have := List.all_eq_true.1 h2 c hc
  rw [h] at this
  exact absurd this (by decide)
theorem numL_ne {s : ByteArray} {t : List UInt8} {b : Bool} (h : decS (sgn b (val t)) ≠ s) : numL s t b = (0, false) := by
  by_cases hc : 1 ≤ t.length ∧ t.length ≤ 18 ∧ t.all dgt = true
  · rw [numL, if_pos hc, if_neg h]
  · rw [numL, if_neg hc]
theorem numL_yes {s : ByteArray} {t : List UInt8} {b : Bool} (h1 : 1 ≤ t.length) (h2 : t.length ≤ 18) (h3 : ∀ c ∈ t, dgt c = true) (h : decS (sgn b (val t)) = s) : numL s t b = (sgn b (val t), true) := by
  rw [numL, if_pos ⟨h1, h2, List.all_eq_true.2 h3⟩, if_pos h]
theorem ba_len (t : ByteArray) : t.data.toList.length = t.size := by rw [Array.length_toList]; rfl
theorem take_snocB (t : ByteArray) (k : Nat) (h : k < t.size) : t.data.toList.take (k + 1) = t.data.toList.take k ++ [t[k]] := by
  rw [List.take_add_one, List.getElem?_eq_getElem (by rw [ba_len]; exact h)]
  rfl
theorem mem_at (t : ByteArray) (k : Nat) (h : k < t.size) : t[k] ∈ t.data.toList := List.getElem_mem (by rw [ba_len]; exact h)
theorem body_ne {s : ByteArray} (h : 0 < s.size) (h2 : s[0] ≠ 45) : bodyL s.data.toList = s.data.toList := by
  have h1 : 0 < s.data.toList.length := by rw [ba_len]; exact h
  have h3 : s.data.toList[0] ≠ 45 := h2
  revert h1 h3
  cases s.data.toList with
  | nil => intro h1; exact absurd h1 (by simp)
  | cons c r => intro _ h3; have h5 : c ≠ 45 := h3; rw [bodyL, if_neg h5]
theorem body_neg {s : ByteArray} (h : 0 < s.size) (h2 : s[0] = 45) : bodyL s.data.toList = (s.extract 1 s.size).data.toList := by
  have h1 : 0 < s.data.toList.length := by rw [ba_len]; exact h
  have h3 : s.data.toList[0] = 45 := h2
  have h4 : (s.extract 1 s.size).data.toList = s.data.toList.drop 1 := by
    rw [ByteArray.data_extract, Array.toList_extract, List.extract_eq_take_drop]
    have : s.data.toList.length = s.size := ba_len s
    rw [List.take_of_length_le (by rw [List.length_drop]; omega)]
  rw [h4]
  revert h1 h3
  cases s.data.toList with
  | nil => intro h1; exact absurd h1 (by simp)
  | cons c r => intro _ h3; have h5 : c = 45 := h3; rw [bodyL, if_pos h5]; rfl
theorem tup2 {n n' : Int} {b b' : Bool} (h : (n, b) = (n', b')) : Ending.returned (.tuple #[.int .i64 n, .bool b]) = .returned (.tuple #[.int .i64 n', .bool b']) := by
  injection h with h1 h2
  rw [h1, h2]
theorem toList_inj {a b : ByteArray} (h : a.toList = b.toList) : a = b := by
  rw [ByteArray.toList_eq, ByteArray.toList_eq] at h
  apply ByteArray.ext
  exact Array.toList_inj.1 h
set_option maxRecDepth 4000 in
set_option maxHeartbeats 4000000 in
theorem ReadDecimal_any (s : ByteArray) (n0 : Int) (ok : Bool) (hr : numR s = (n0, ok)) (hs : s.size ≤ 9223372036854775807) (w : World) (ht : TabW w) :
    Calls Tryd.prog 21 #[.string s] w fun e w' => e = .returned (.tuple #[.int .i64 n0, .bool ok]) ∧ Below w.heap.size w w' := by
  have HR := Lib.hid hr
  clear hr
  by_cases h0 : s.size = 0
  case pos =>
    obtain rfl : s = ⟨#[]⟩ := by
      apply ByteArray.ext
      exact Array.eq_empty_of_size_eq_zero h0
    have HE : Hid ((0, false) = (n0, ok)) := HR.out
    go_enter Tryd.func21, Tryd.ntmps21
    go_wp2_with fail
    go_ret2
    exact ⟨tup2 HE.out, by (repeat' (first | (with_reducible exact Below.refl _ _) | (with_reducible assumption) | (with_reducible refine Below.alloc ?_ ?_ _) | (with_reducible refine Below.drew ?_) | (with_reducible refine belowDrewN ?_ _) | (with_reducible refine Below.setCell ?_ ?_ _) | (with_reducible refine Below.via (by with_reducible assumption) ?_ ?_) | (with_reducible refine Below.viaD (by with_reducible assumption) ?_ ?_) | (with_reducible exact Below.size (by with_reducible assumption)) | go_size | (with_reducible refine Nat.le_trans ?_ (Below.size (by with_reducible assumption))) | (with_reducible refine Nat.le_trans ?_ (sizeAlloc _ _)) | (with_reducible refine Nat.le_trans ?_ (sizeSet _ _ _)) | (with_reducible refine Nat.le_trans ?_ (sizeDrew _))))⟩
  case neg =>
    have h1 : 0 < s.size := by omega
    have hz0 : (s.toList == ({ data := #[] } : ByteArray).toList) = false := by rw [beq_eq_false_iff_ne]; intro h; rw [toList_inj h] at h1; exact absurd h1 (by decide)
    have hz1 : (s.toList == []) = false := by rw [beq_eq_false_iff_ne]; intro h; rw [ByteArray.toList_eq] at h; have := ba_len s; rw [h] at this; exact h0 this.symm
    obtain ⟨c0, hidx⟩ : ∃ c, s[0] = c := ⟨_, rfl⟩
    by_cases h45 : c0 = 45
    case neg =>
      have HN : Hid (numR s = numL s s.data.toList false) := by
        unfold Hid numR
        rw [body_ne h1 (by rw [hidx]; exact h45), decide_eq_false (Nat.lt_irrefl _)]
      have hcn : ((c0.toNat : Int) == 45) = false := by
        rw [beq_eq_false_iff_ne]
        intro h
        have h9 : c0.toNat = (45 : UInt8).toNat := by show c0.toNat = 45; omega
        exact h45 (UInt8.toNat_inj.1 h9)
      clear h45 h0
      go_enter Tryd.func21, Tryd.ntmps21
      go_upto_region 4 with fail
      clear hz0 hz1 hcn hidx
      by_cases hm : 1 ≤ s.size ∧ s.size ≤ 18
      case neg =>
        have HE := Lib.hid ((numL_len (s := s) (b := false) (by rw [ba_len]; exact hm)).symm.trans (HN.out.symm.trans HR.out))
        by_cases hm0 : s.size = 0
        · go_wp2_with fail
          go_ret2
          exact ⟨tup2 HE.out, by (repeat' (first | (with_reducible exact Below.refl _ _) | (with_reducible assumption) | (with_reducible refine Below.alloc ?_ ?_ _) | (with_reducible refine Below.drew ?_) | (with_reducible refine belowDrewN ?_ _) | (with_reducible refine Below.setCell ?_ ?_ _) | (with_reducible refine Below.via (by with_reducible assumption) ?_ ?_) | (with_reducible refine Below.viaD (by with_reducible assumption) ?_ ?_) | (with_reducible exact Below.size (by with_reducible assumption)) | go_size | (with_reducible refine Nat.le_trans ?_ (Below.size (by with_reducible assumption))) | (with_reducible refine Nat.le_trans ?_ (sizeAlloc _ _)) | (with_reducible refine Nat.le_trans ?_ (sizeSet _ _ _)) | (with_reducible refine Nat.le_trans ?_ (sizeDrew _))))⟩
        · have hm1 : 18 < s.size := by omega
          go_wp2_with fail
          go_ret2
          exact ⟨tup2 HE.out, by (repeat' (first | (with_reducible exact Below.refl _ _) | (with_reducible assumption) | (with_reducible refine Below.alloc ?_ ?_ _) | (with_reducible refine Below.drew ?_) | (with_reducible refine belowDrewN ?_ _) | (with_reducible refine Below.setCell ?_ ?_ _) | (with_reducible refine Below.via (by with_reducible assumption) ?_ ?_) | (with_reducible refine Below.viaD (by with_reducible assumption) ?_ ?_) | (with_reducible exact Below.size (by with_reducible assumption)) | go_size | (with_reducible refine Nat.le_trans ?_ (Below.size (by with_reducible assumption))) | (with_reducible refine Nat.le_trans ?_ (sizeAlloc _ _)) | (with_reducible refine Nat.le_trans ?_ (sizeSet _ _ _)) | (with_reducible refine Nat.le_trans ?_ (sizeDrew _))))⟩
      case pos =>
        obtain ⟨hm1, hm2⟩ := hm
        have hszb : ((s.size : Int) == 0) = false := by rw [beq_eq_false_iff_ne]; omega
        go_wp2_with fail
        go_loopw [5, 28] (fun n i wr => ∃ k : Nat, k ≤ s.size ∧ i = .int .i64 k ∧ n = .int .i64 (val (s.data.toList.take k)) ∧ Hid (∀ c ∈ s.data.toList.take k, dgt c = true) ∧ Below w.heap.size w wr) (fun _ i _ => s.size - (intOf i).toNat)
        case atStart => exact ⟨0, Nat.zero_le _, rfl, rfl, by unfold Hid; simp, by (repeat' (first | (with_reducible exact Below.refl _ _) | (with_reducible assumption) | (with_reducible refine Below.alloc ?_ ?_ _) | (with_reducible refine Below.drew ?_) | (with_reducible refine belowDrewN ?_ _) | (with_reducible refine Below.setCell ?_ ?_ _) | (with_reducible refine Below.via (by with_reducible assumption) ?_ ?_) | (with_reducible refine Below.viaD (by with_reducible assumption) ?_ ?_) | (with_reducible exact Below.size (by with_reducible assumption)) | go_size | (with_reducible refine Nat.le_trans ?_ (Below.size (by with_reducible assumption))) | (with_reducible refine Nat.le_trans ?_ (sizeAlloc _ _)) | (with_reducible refine Nat.le_trans ?_ (sizeSet _ _ _)) | (with_reducible refine Nat.le_trans ?_ (sizeDrew _))))⟩
        case round =>
          obtain ⟨k, hk, rfl, rfl, hall, hbl⟩ := hrel
          have HB := Lib.hid hbl
          have hvb := val_le (s.data.toList.take k) k hall.out (by rw [List.length_take]; omega)
          obtain ⟨v, hv⟩ : ∃ v, val (s.data.toList.take k) = v := ⟨_, rfl⟩
          rw [hv] at hvb
          have HV := Lib.hid hv
          rw [hv]
          clear hv hbl
          by_cases hlt : k < s.size
          · have hv1 : v ≤ 99999999999999999 := by
              have h2 : 10 ^ k ≤ 10 ^ 17 := Nat.pow_le_pow_right (by omega) (by omega)
              omega
            have hv0 := hvb.1
            clear hvb
            obtain ⟨c, hidx⟩ : ∃ c, s[k] = c := ⟨_, rfl⟩
            have HX := Lib.hid hidx
            have HM := Lib.hid (mem_at s k hlt)
            have HT := Lib.hid (take_snocB s k hlt)
            rw [hidx] at HM HT
            obtain ⟨z, hz⟩ : ∃ z : Int, (c.toNat : Int) = z := ⟨_, rfl⟩
            have HZ := Lib.hid hz
            cases hd : dgt c
            case false =>
              have HE := Lib.hid ((numL_bad (s := s) (b := false) HM.out hd).symm.trans (HN.out.symm.trans HR.out))
              have HD : Hid (∀ w, Calls Tryd.prog 38 #[.int .u8 z] w fun e w' => e = .returned (.bool false) ∧ w = w') := by rw [← hz]; exact isDigit_any c false hd
              clear hd
              go_wp2_with (go_at_call 38; (with_reducible refine Calls.mono (HD.out _) ?_); rintro e w_ ⟨rfl, rfl⟩)
              go_ret2
              exact ⟨tup2 HE.out, HB.out⟩
            case true =>
              obtain ⟨hc1, hc2⟩ := dgt_t hd
              have HGD := Lib.hid hd
              have HD : Hid (∀ w, Calls Tryd.prog 38 #[.int .u8 z] w fun e w' => e = .returned (.bool true) ∧ w = w') := by rw [← hz]; exact isDigit_any c true hd
              clear hd
              rw [hz] at hc1 hc2
              go_wp2_with (go_at_call 38; (with_reducible refine Calls.mono (HD.out _) ?_); rintro e w_ ⟨rfl, rfl⟩)
              go_roundw
              case rel => exact ⟨k + 1, by omega, by go_num, by rw [HT.out, val_snoc, HV.out, HZ.out], by unfold Hid; rw [HT.out]; intro d hd; rcases List.mem_append.1 hd with h | h; exact hall.out d h; rw [List.mem_singleton.1 h]; exact HGD.out, HB.out⟩
              case measure => first | (simp [intOf]; done) | (simp [intOf]; omega)
          · obtain rfl : k = s.size := by omega
            have htake : Hid (s.data.toList.take s.size = s.data.toList) := by unfold Hid; rw [List.take_of_length_le (by rw [ba_len]; exact Nat.le_refl _)]
            have hv2 : v ≤ 999999999999999999 := by
              have h2 : 10 ^ s.size ≤ 10 ^ 18 := Nat.pow_le_pow_right (by omega) (by omega)
              omega
            have hv0 := hvb.1
            have HV2 : Hid (sgn false (val s.data.toList) = v) := by unfold Hid; rw [← htake.out, HV.out]; rfl
            have HA2 : Hid (∀ c ∈ s.data.toList, dgt c = true) := by unfold Hid; rw [← htake.out]; exact hall.out
            clear hvb
            have HDC : Hid (∀ W, Below w.heap.size w W → Calls Tryd.prog 19 #[.int .i64 (v)] W fun e w' => e = .returned (.string (decS (v))) ∧ Below W.heap.size W w') := fun W hbW => Decimal_any (v) (by omega) (by omega) W (ht.later hbW)
            by_cases heq : decS (v) = s
            · have HE := Lib.hid ((numL_yes (s := s) (b := false) (by rw [ba_len]; exact hm1) (by rw [ba_len]; exact hm2) HA2.out (by rw [HV2.out]; exact heq)).symm.trans (HN.out.symm.trans HR.out))
              rw [heq] at HDC
              clear heq
              go_wp2_with (go_at_call 19; (with_reducible refine Calls.mono (HDC.out _ HB.out) ?_); rintro e w_ ⟨rfl, hb1⟩)
              go_ret2
              exact ⟨tup2 (by rw [← HV2.out]; exact HE.out), Below.via hb1 HB.out HB.out.size⟩
            · have HE := Lib.hid ((numL_ne (s := s) (b := false) (by rw [HV2.out]; exact heq)).symm.trans (HN.out.symm.trans HR.out))
              obtain ⟨d, hdd⟩ : ∃ d, decS (v) = d := ⟨_, rfl⟩
              rw [hdd] at HDC heq
              have hcmp : (d.toList == s.toList) = false := by rw [beq_eq_false_iff_ne]; intro h; exact heq (toList_inj h)
              clear heq hdd
              go_wp2_with (go_at_call 19; (with_reducible refine Calls.mono (HDC.out _ HB.out) ?_); rintro e w_ ⟨rfl, hb1⟩)
              go_ret2
              exact ⟨tup2 HE.out, Below.via hb1 HB.out HB.out.size⟩
    case pos =>
      subst h45
      obtain ⟨t, hext⟩ : ∃ t, s.extract 1 s.size = t := ⟨_, rfl⟩
      have htz : t.size = s.size - 1 := by rw [← hext, ByteArray.size_extract]; omega
      have HN : Hid (numR s = numL s t.data.toList true) := by
        unfold Hid numR
        rw [body_neg h1 hidx, hext, decide_eq_true (by rw [ba_len, ba_len]; omega)]
      have htl : t.size < s.size := by omega
      clear h0
      go_enter Tryd.func21, Tryd.ntmps21
      go_upto_region 4 with fail
      clear hz0 hz1 hext hidx htz
      by_cases hm : 1 ≤ t.size ∧ t.size ≤ 18
      case neg =>
        have HE := Lib.hid ((numL_len (s := s) (b := true) (by rw [ba_len]; exact hm)).symm.trans (HN.out.symm.trans HR.out))
        by_cases hm0 : t.size = 0
        · go_wp2_with fail
          go_ret2
          exact ⟨tup2 HE.out, by (repeat' (first | (with_reducible exact Below.refl _ _) | (with_reducible assumption) | (with_reducible refine Below.alloc ?_ ?_ _) | (with_reducible refine Below.drew ?_) | (with_reducible refine belowDrewN ?_ _) | (with_reducible refine Below.setCell ?_ ?_ _) | (with_reducible refine Below.via (by with_reducible assumption) ?_ ?_) | (with_reducible refine Below.viaD (by with_reducible assumption) ?_ ?_) | (with_reducible exact Below.size (by with_reducible assumption)) | go_size | (with_reducible refine Nat.le_trans ?_ (Below.size (by with_reducible assumption))) | (with_reducible refine Nat.le_trans ?_ (sizeAlloc _ _)) | (with_reducible refine Nat.le_trans ?_ (sizeSet _ _ _)) | (with_reducible refine Nat.le_trans ?_ (sizeDrew _))))⟩
        · have hm1 : 18 < t.size := by omega
          go_wp2_with fail
          go_ret2
          exact ⟨tup2 HE.out, by (repeat' (first | (with_reducible exact Below.refl _ _) | (with_reducible assumption) | (with_reducible refine Below.alloc ?_ ?_ _) | (with_reducible refine Below.drew ?_) | (with_reducible refine belowDrewN ?_ _) | (with_reducible refine Below.setCell ?_ ?_ _) | (with_reducible refine Below.via (by with_reducible assumption) ?_ ?_) | (with_reducible refine Below.viaD (by with_reducible assumption) ?_ ?_) | (with_reducible exact Below.size (by with_reducible assumption)) | go_size | (with_reducible refine Nat.le_trans ?_ (Below.size (by with_reducible assumption))) | (with_reducible refine Nat.le_trans ?_ (sizeAlloc _ _)) | (with_reducible refine Nat.le_trans ?_ (sizeSet _ _ _)) | (with_reducible refine Nat.le_trans ?_ (sizeDrew _))))⟩
      case pos =>
        obtain ⟨hm1, hm2⟩ := hm
        have hszb : ((t.size : Int) == 0) = false := by rw [beq_eq_false_iff_ne]; omega
        go_wp2_with fail
        go_loopw [5, 28] (fun n i wr => ∃ k : Nat, k ≤ t.size ∧ i = .int .i64 k ∧ n = .int .i64 (val (t.data.toList.take k)) ∧ Hid (∀ c ∈ t.data.toList.take k, dgt c = true) ∧ Below w.heap.size w wr) (fun _ i _ => t.size - (intOf i).toNat)
        case atStart => exact ⟨0, Nat.zero_le _, rfl, rfl, by unfold Hid; simp, by (repeat' (first | (with_reducible exact Below.refl _ _) | (with_reducible assumption) | (with_reducible refine Below.alloc ?_ ?_ _) | (with_reducible refine Below.drew ?_) | (with_reducible refine belowDrewN ?_ _) | (with_reducible refine Below.setCell ?_ ?_ _) | (with_reducible refine Below.via (by with_reducible assumption) ?_ ?_) | (with_reducible refine Below.viaD (by with_reducible assumption) ?_ ?_) | (with_reducible exact Below.size (by with_reducible assumption)) | go_size | (with_reducible refine Nat.le_trans ?_ (Below.size (by with_reducible assumption))) | (with_reducible refine Nat.le_trans ?_ (sizeAlloc _ _)) | (with_reducible refine Nat.le_trans ?_ (sizeSet _ _ _)) | (with_reducible refine Nat.le_trans ?_ (sizeDrew _))))⟩
        case round =>
          obtain ⟨k, hk, rfl, rfl, hall, hbl⟩ := hrel
          have HB := Lib.hid hbl
          have hvb := val_le (t.data.toList.take k) k hall.out (by rw [List.length_take]; omega)
          obtain ⟨v, hv⟩ : ∃ v, val (t.data.toList.take k) = v := ⟨_, rfl⟩
          rw [hv] at hvb
          have HV := Lib.hid hv
          rw [hv]
          clear hv hbl
          by_cases hlt : k < t.size
          · have hv1 : v ≤ 99999999999999999 := by
              have h2 : 10 ^ k ≤ 10 ^ 17 := Nat.pow_le_pow_right (by omega) (by omega)
              omega
            have hv0 := hvb.1
            clear hvb
            obtain ⟨c, hidx⟩ : ∃ c, t[k] = c := ⟨_, rfl⟩
            have HX := Lib.hid hidx
            have HM := Lib.hid (mem_at t k hlt)
            have HT := Lib.hid (take_snocB t k hlt)
            rw [hidx] at HM HT
            obtain ⟨z, hz⟩ : ∃ z : Int, (c.toNat : Int) = z := ⟨_, rfl⟩
            have HZ := Lib.hid hz
            cases hd : dgt c
            case false =>
              have HE := Lib.hid ((numL_bad (s := s) (b := true) HM.out hd).symm.trans (HN.out.symm.trans HR.out))
              have HD : Hid (∀ w, Calls Tryd.prog 38 #[.int .u8 z] w fun e w' => e = .returned (.bool false) ∧ w = w') := by rw [← hz]; exact isDigit_any c false hd
              clear hd
              go_wp2_with (go_at_call 38; (with_reducible refine Calls.mono (HD.out _) ?_); rintro e w_ ⟨rfl, rfl⟩)
              go_ret2
              exact ⟨tup2 HE.out, HB.out⟩
            case true =>
              obtain ⟨hc1, hc2⟩ := dgt_t hd
              have HGD := Lib.hid hd
              have HD : Hid (∀ w, Calls Tryd.prog 38 #[.int .u8 z] w fun e w' => e = .returned (.bool true) ∧ w = w') := by rw [← hz]; exact isDigit_any c true hd
              clear hd
              rw [hz] at hc1 hc2
              go_wp2_with (go_at_call 38; (with_reducible refine Calls.mono (HD.out _) ?_); rintro e w_ ⟨rfl, rfl⟩)
              go_roundw
              case rel => exact ⟨k + 1, by omega, by go_num, by rw [HT.out, val_snoc, HV.out, HZ.out], by unfold Hid; rw [HT.out]; intro d hd; rcases List.mem_append.1 hd with h | h; exact hall.out d h; rw [List.mem_singleton.1 h]; exact HGD.out, HB.out⟩
              case measure => first | (simp [intOf]; done) | (simp [intOf]; omega)
          · obtain rfl : k = t.size := by omega
            have htake : Hid (t.data.toList.take t.size = t.data.toList) := by unfold Hid; rw [List.take_of_length_le (by rw [ba_len]; exact Nat.le_refl _)]
            have hv2 : v ≤ 999999999999999999 := by
              have h2 : 10 ^ t.size ≤ 10 ^ 18 := Nat.pow_le_pow_right (by omega) (by omega)
              omega
            have hv0 := hvb.1
            have HV2 : Hid (sgn true (val t.data.toList) = -v) := by unfold Hid; rw [← htake.out, HV.out]; rfl
            have HA2 : Hid (∀ c ∈ t.data.toList, dgt c = true) := by unfold Hid; rw [← htake.out]; exact hall.out
            clear hvb
            have HDC : Hid (∀ W, Below w.heap.size w W → Calls Tryd.prog 19 #[.int .i64 (-v)] W fun e w' => e = .returned (.string (decS (-v))) ∧ Below W.heap.size W w') := fun W hbW => Decimal_any (-v) (by omega) (by omega) W (ht.later hbW)
            by_cases heq : decS (-v) = s
            · have HE := Lib.hid ((numL_yes (s := s) (b := true) (by rw [ba_len]; exact hm1) (by rw [ba_len]; exact hm2) HA2.out (by rw [HV2.out]; exact heq)).symm.trans (HN.out.symm.trans HR.out))
              rw [heq] at HDC
              clear heq
              go_wp2_with (go_at_call 19; (with_reducible refine Calls.mono (HDC.out _ HB.out) ?_); rintro e w_ ⟨rfl, hb1⟩)
              go_ret2
              exact ⟨tup2 (by rw [← HV2.out]; exact HE.out), Below.via hb1 HB.out HB.out.size⟩
            · have HE := Lib.hid ((numL_ne (s := s) (b := true) (by rw [HV2.out]; exact heq)).symm.trans (HN.out.symm.trans HR.out))
              obtain ⟨d, hdd⟩ : ∃ d, decS (-v) = d := ⟨_, rfl⟩
              rw [hdd] at HDC heq
              have hcmp : (d.toList == s.toList) = false := by rw [beq_eq_false_iff_ne]; intro h; exact heq (toList_inj h)
              clear heq hdd
              go_wp2_with (go_at_call 19; (with_reducible refine Calls.mono (HDC.out _ HB.out) ?_); rintro e w_ ⟨rfl, hb1⟩)
              go_ret2
              exact ⟨tup2 HE.out, Below.via hb1 HB.out HB.out.size⟩
set_option maxRecDepth 4000 in
set_option maxHeartbeats 4000000 in
theorem l01Number_any (s : ByteArray) (n0 : Int) (ok : Bool) (hr : numR s = (n0, ok)) (hs : s.size ≤ 9223372036854775807) (w : World) :
    Calls Tryd.prog 25 #[.string s] w fun e w' => e = .returned (.tuple #[.int .i64 n0, .bool ok]) ∧ Below w.heap.size w w' := by
  have HR := Lib.hid hr
  clear hr
  by_cases h0 : s.size = 0
  case pos =>
    obtain rfl : s = ⟨#[]⟩ := by
      apply ByteArray.ext
      exact Array.eq_empty_of_size_eq_zero h0
    have HE : Hid ((0, false) = (n0, ok)) := HR.out
    go_enter Tryd.func25, Tryd.ntmps25
    go_wp2_with fail
    go_ret2
    exact ⟨tup2 HE.out, by (repeat' (first | (with_reducible exact Below.refl _ _) | (with_reducible assumption) | (with_reducible refine Below.alloc ?_ ?_ _) | (with_reducible refine Below.drew ?_) | (with_reducible refine belowDrewN ?_ _) | (with_reducible refine Below.setCell ?_ ?_ _) | (with_reducible refine Below.via (by with_reducible assumption) ?_ ?_) | (with_reducible refine Below.viaD (by with_reducible assumption) ?_ ?_) | (with_reducible exact Below.size (by with_reducible assumption)) | go_size | (with_reducible refine Nat.le_trans ?_ (Below.size (by with_reducible assumption))) | (with_reducible refine Nat.le_trans ?_ (sizeAlloc _ _)) | (with_reducible refine Nat.le_trans ?_ (sizeSet _ _ _)) | (with_reducible refine Nat.le_trans ?_ (sizeDrew _))))⟩
  case neg =>
    have h1 : 0 < s.size := by omega
    have hz0 : (s.toList == ({ data := #[] } : ByteArray).toList) = false := by rw [beq_eq_false_iff_ne]; intro h; rw [toList_inj h] at h1; exact absurd h1 (by decide)
    have hz1 : (s.toList == []) = false := by rw [beq_eq_false_iff_ne]; intro h; rw [ByteArray.toList_eq] at h; have := ba_len s; rw [h] at this; exact h0 this.symm
    obtain ⟨c0, hidx⟩ : ∃ c, s[0] = c := ⟨_, rfl⟩
    by_cases h45 : c0 = 45
    case neg =>
      have HN : Hid (numR s = numL s s.data.toList false) := by
        unfold Hid numR
        rw [body_ne h1 (by rw [hidx]; exact h45), decide_eq_false (Nat.lt_irrefl _)]
      have hcn : ((c0.toNat : Int) == 45) = false := by
        rw [beq_eq_false_iff_ne]
        intro h
        have h9 : c0.toNat = (45 : UInt8).toNat := by show c0.toNat = 45; omega
        exact h45 (UInt8.toNat_inj.1 h9)
      clear h45 h0
      go_enter Tryd.func25, Tryd.ntmps25
      go_upto_region 4 with fail
      clear hz0 hz1 hcn hidx
      by_cases hm : 1 ≤ s.size ∧ s.size ≤ 18
      case neg =>
        have HE := Lib.hid ((numL_len (s := s) (b := false) (by rw [ba_len]; exact hm)).symm.trans (HN.out.symm.trans HR.out))
        by_cases hm0 : s.size = 0
        · go_wp2_with fail
          go_ret2
          exact ⟨tup2 HE.out, by (repeat' (first | (with_reducible exact Below.refl _ _) | (with_reducible assumption) | (with_reducible refine Below.alloc ?_ ?_ _) | (with_reducible refine Below.drew ?_) | (with_reducible refine belowDrewN ?_ _) | (with_reducible refine Below.setCell ?_ ?_ _) | (with_reducible refine Below.via (by with_reducible assumption) ?_ ?_) | (with_reducible refine Below.viaD (by with_reducible assumption) ?_ ?_) | (with_reducible exact Below.size (by with_reducible assumption)) | go_size | (with_reducible refine Nat.le_trans ?_ (Below.size (by with_reducible assumption))) | (with_reducible refine Nat.le_trans ?_ (sizeAlloc _ _)) | (with_reducible refine Nat.le_trans ?_ (sizeSet _ _ _)) | (with_reducible refine Nat.le_trans ?_ (sizeDrew _))))⟩
        · have hm1 : 18 < s.size := by omega
          go_wp2_with fail
          go_ret2
          exact ⟨tup2 HE.out, by (repeat' (first | (with_reducible exact Below.refl _ _) | (with_reducible assumption) | (with_reducible refine Below.alloc ?_ ?_ _) | (with_reducible refine Below.drew ?_) | (with_reducible refine belowDrewN ?_ _) | (with_reducible refine Below.setCell ?_ ?_ _) | (with_reducible refine Below.via (by with_reducible assumption) ?_ ?_) | (with_reducible refine Below.viaD (by with_reducible assumption) ?_ ?_) | (with_reducible exact Below.size (by with_reducible assumption)) | go_size | (with_reducible refine Nat.le_trans ?_ (Below.size (by with_reducible assumption))) | (with_reducible refine Nat.le_trans ?_ (sizeAlloc _ _)) | (with_reducible refine Nat.le_trans ?_ (sizeSet _ _ _)) | (with_reducible refine Nat.le_trans ?_ (sizeDrew _))))⟩
      case pos =>
        obtain ⟨hm1, hm2⟩ := hm
        have hszb : ((s.size : Int) == 0) = false := by rw [beq_eq_false_iff_ne]; omega
        go_wp2_with fail
        go_loopw [5, 6] (fun n i wr => ∃ k : Nat, k ≤ s.size ∧ i = .int .i64 k ∧ n = .int .i64 (val (s.data.toList.take k)) ∧ Hid (∀ c ∈ s.data.toList.take k, dgt c = true) ∧ Below w.heap.size w wr) (fun _ i _ => s.size - (intOf i).toNat)
        case atStart => exact ⟨0, Nat.zero_le _, rfl, rfl, by unfold Hid; simp, by (repeat' (first | (with_reducible exact Below.refl _ _) | (with_reducible assumption) | (with_reducible refine Below.alloc ?_ ?_ _) | (with_reducible refine Below.drew ?_) | (with_reducible refine belowDrewN ?_ _) | (with_reducible refine Below.setCell ?_ ?_ _) | (with_reducible refine Below.via (by with_reducible assumption) ?_ ?_) | (with_reducible refine Below.viaD (by with_reducible assumption) ?_ ?_) | (with_reducible exact Below.size (by with_reducible assumption)) | go_size | (with_reducible refine Nat.le_trans ?_ (Below.size (by with_reducible assumption))) | (with_reducible refine Nat.le_trans ?_ (sizeAlloc _ _)) | (with_reducible refine Nat.le_trans ?_ (sizeSet _ _ _)) | (with_reducible refine Nat.le_trans ?_ (sizeDrew _))))⟩
        case round =>
          obtain ⟨k, hk, rfl, rfl, hall, hbl⟩ := hrel
          have HB := Lib.hid hbl
          have hvb := val_le (s.data.toList.take k) k hall.out (by rw [List.length_take]; omega)
          obtain ⟨v, hv⟩ : ∃ v, val (s.data.toList.take k) = v := ⟨_, rfl⟩
          rw [hv] at hvb
          have HV := Lib.hid hv
          rw [hv]
          clear hv hbl
          by_cases hlt : k < s.size
          · have hv1 : v ≤ 99999999999999999 := by
              have h2 : 10 ^ k ≤ 10 ^ 17 := Nat.pow_le_pow_right (by omega) (by omega)
              omega
            have hv0 := hvb.1
            clear hvb
            obtain ⟨c, hidx⟩ : ∃ c, s[k] = c := ⟨_, rfl⟩
            have HX := Lib.hid hidx
            have HM := Lib.hid (mem_at s k hlt)
            have HT := Lib.hid (take_snocB s k hlt)
            rw [hidx] at HM HT
            obtain ⟨z, hz⟩ : ∃ z : Int, (c.toNat : Int) = z := ⟨_, rfl⟩
            have HZ := Lib.hid hz
            cases hd : dgt c
            case false =>
              have HE := Lib.hid ((numL_bad (s := s) (b := false) HM.out hd).symm.trans (HN.out.symm.trans HR.out))
              have HD : Hid (∀ w, Calls Tryd.prog 41 #[.int .u8 z] w fun e w' => e = .returned (.bool false) ∧ w = w') := by rw [← hz]; exact l01Digit_any c false hd
              clear hd
              go_wp2_with (go_at_call 41; (with_reducible refine Calls.mono (HD.out _) ?_); rintro e w_ ⟨rfl, rfl⟩)
              go_ret2
              exact ⟨tup2 HE.out, HB.out⟩
            case true =>
              obtain ⟨hc1, hc2⟩ := dgt_t hd
              have HGD := Lib.hid hd
              have HD : Hid (∀ w, Calls Tryd.prog 41 #[.int .u8 z] w fun e w' => e = .returned (.bool true) ∧ w = w') := by rw [← hz]; exact l01Digit_any c true hd
              clear hd
              rw [hz] at hc1 hc2
              go_wp2_with (go_at_call 41; (with_reducible refine Calls.mono (HD.out _) ?_); rintro e w_ ⟨rfl, rfl⟩)
              go_roundw
              case rel => exact ⟨k + 1, by omega, by go_num, by rw [HT.out, val_snoc, HV.out, HZ.out], by unfold Hid; rw [HT.out]; intro d hd; rcases List.mem_append.1 hd with h | h; exact hall.out d h; rw [List.mem_singleton.1 h]; exact HGD.out, HB.out⟩
              case measure => first | (simp [intOf]; done) | (simp [intOf]; omega)
          · obtain rfl : k = s.size := by omega
            have htake : Hid (s.data.toList.take s.size = s.data.toList) := by unfold Hid; rw [List.take_of_length_le (by rw [ba_len]; exact Nat.le_refl _)]
            have hv2 : v ≤ 999999999999999999 := by
              have h2 : 10 ^ s.size ≤ 10 ^ 18 := Nat.pow_le_pow_right (by omega) (by omega)
              omega
            have hv0 := hvb.1
            have HV2 : Hid (sgn false (val s.data.toList) = v) := by unfold Hid; rw [← htake.out, HV.out]; rfl
            have HA2 : Hid (∀ c ∈ s.data.toList, dgt c = true) := by unfold Hid; rw [← htake.out]; exact hall.out
            clear hvb
            have HDC : Hid (∀ W, Below w.heap.size w W → Calls Tryd.prog 40 #[.int .i64 (v)] W fun e w' => e = .returned (.string (decS (v))) ∧ Below W.heap.size W w') := fun W hbW => l01Dec_any (v) (by omega) (by omega) W
            by_cases heq : decS (v) = s
            · have HE := Lib.hid ((numL_yes (s := s) (b := false) (by rw [ba_len]; exact hm1) (by rw [ba_len]; exact hm2) HA2.out (by rw [HV2.out]; exact heq)).symm.trans (HN.out.symm.trans HR.out))
              rw [heq] at HDC
              clear heq
              go_wp2_with (go_at_call 40; (with_reducible refine Calls.mono (HDC.out _ HB.out) ?_); rintro e w_ ⟨rfl, hb1⟩)
              go_ret2
              exact ⟨tup2 (by rw [← HV2.out]; exact HE.out), Below.via hb1 HB.out HB.out.size⟩
            · have HE := Lib.hid ((numL_ne (s := s) (b := false) (by rw [HV2.out]; exact heq)).symm.trans (HN.out.symm.trans HR.out))
              obtain ⟨d, hdd⟩ : ∃ d, decS (v) = d := ⟨_, rfl⟩
              rw [hdd] at HDC heq
              have hcmp : (d.toList == s.toList) = false := by rw [beq_eq_false_iff_ne]; intro h; exact heq (toList_inj h)
              clear heq hdd
              go_wp2_with (go_at_call 40; (with_reducible refine Calls.mono (HDC.out _ HB.out) ?_); rintro e w_ ⟨rfl, hb1⟩)
              go_ret2
              exact ⟨tup2 HE.out, Below.via hb1 HB.out HB.out.size⟩
    case pos =>
      subst h45
      obtain ⟨t, hext⟩ : ∃ t, s.extract 1 s.size = t := ⟨_, rfl⟩
      have htz : t.size = s.size - 1 := by rw [← hext, ByteArray.size_extract]; omega
      have HN : Hid (numR s = numL s t.data.toList true) := by
        unfold Hid numR
        rw [body_neg h1 hidx, hext, decide_eq_true (by rw [ba_len, ba_len]; omega)]
      have htl : t.size < s.size := by omega
      clear h0
      go_enter Tryd.func25, Tryd.ntmps25
      go_upto_region 4 with fail
      clear hz0 hz1 hext hidx htz
      by_cases hm : 1 ≤ t.size ∧ t.size ≤ 18
      case neg =>
        have HE := Lib.hid ((numL_len (s := s) (b := true) (by rw [ba_len]; exact hm)).symm.trans (HN.out.symm.trans HR.out))
        by_cases hm0 : t.size = 0
        · go_wp2_with fail
          go_ret2
          exact ⟨tup2 HE.out, by (repeat' (first | (with_reducible exact Below.refl _ _) | (with_reducible assumption) | (with_reducible refine Below.alloc ?_ ?_ _) | (with_reducible refine Below.drew ?_) | (with_reducible refine belowDrewN ?_ _) | (with_reducible refine Below.setCell ?_ ?_ _) | (with_reducible refine Below.via (by with_reducible assumption) ?_ ?_) | (with_reducible refine Below.viaD (by with_reducible assumption) ?_ ?_) | (with_reducible exact Below.size (by with_reducible assumption)) | go_size | (with_reducible refine Nat.le_trans ?_ (Below.size (by with_reducible assumption))) | (with_reducible refine Nat.le_trans ?_ (sizeAlloc _ _)) | (with_reducible refine Nat.le_trans ?_ (sizeSet _ _ _)) | (with_reducible refine Nat.le_trans ?_ (sizeDrew _))))⟩
        · have hm1 : 18 < t.size := by omega
          go_wp2_with fail
          go_ret2
          exact ⟨tup2 HE.out, by (repeat' (first | (with_reducible exact Below.refl _ _) | (with_reducible assumption) | (with_reducible refine Below.alloc ?_ ?_ _) | (with_reducible refine Below.drew ?_) | (with_reducible refine belowDrewN ?_ _) | (with_reducible refine Below.setCell ?_ ?_ _) | (with_reducible refine Below.via (by with_reducible assumption) ?_ ?_) | (with_reducible refine Below.viaD (by with_reducible assumption) ?_ ?_) | (with_reducible exact Below.size (by with_reducible assumption)) | go_size | (with_reducible refine Nat.le_trans ?_ (Below.size (by with_reducible assumption))) | (with_reducible refine Nat.le_trans ?_ (sizeAlloc _ _)) | (with_reducible refine Nat.le_trans ?_ (sizeSet _ _ _)) | (with_reducible refine Nat.le_trans ?_ (sizeDrew _))))⟩
      case pos =>
        obtain ⟨hm1, hm2⟩ := hm
        have hszb : ((t.size : Int) == 0) = false := by rw [beq_eq_false_iff_ne]; omega
        go_wp2_with fail
        go_loopw [5, 6] (fun n i wr => ∃ k : Nat, k ≤ t.size ∧ i = .int .i64 k ∧ n = .int .i64 (val (t.data.toList.take k)) ∧ Hid (∀ c ∈ t.data.toList.take k, dgt c = true) ∧ Below w.heap.size w wr) (fun _ i _ => t.size - (intOf i).toNat)
        case atStart => exact ⟨0, Nat.zero_le _, rfl, rfl, by unfold Hid; simp, by (repeat' (first | (with_reducible exact Below.refl _ _) | (with_reducible assumption) | (with_reducible refine Below.alloc ?_ ?_ _) | (with_reducible refine Below.drew ?_) | (with_reducible refine belowDrewN ?_ _) | (with_reducible refine Below.setCell ?_ ?_ _) | (with_reducible refine Below.via (by with_reducible assumption) ?_ ?_) | (with_reducible refine Below.viaD (by with_reducible assumption) ?_ ?_) | (with_reducible exact Below.size (by with_reducible assumption)) | go_size | (with_reducible refine Nat.le_trans ?_ (Below.size (by with_reducible assumption))) | (with_reducible refine Nat.le_trans ?_ (sizeAlloc _ _)) | (with_reducible refine Nat.le_trans ?_ (sizeSet _ _ _)) | (with_reducible refine Nat.le_trans ?_ (sizeDrew _))))⟩
        case round =>
          obtain ⟨k, hk, rfl, rfl, hall, hbl⟩ := hrel
          have HB := Lib.hid hbl
          have hvb := val_le (t.data.toList.take k) k hall.out (by rw [List.length_take]; omega)
          obtain ⟨v, hv⟩ : ∃ v, val (t.data.toList.take k) = v := ⟨_, rfl⟩
          rw [hv] at hvb
          have HV := Lib.hid hv
          rw [hv]
          clear hv hbl
          by_cases hlt : k < t.size
          · have hv1 : v ≤ 99999999999999999 := by
              have h2 : 10 ^ k ≤ 10 ^ 17 := Nat.pow_le_pow_right (by omega) (by omega)
              omega
            have hv0 := hvb.1
            clear hvb
            obtain ⟨c, hidx⟩ : ∃ c, t[k] = c := ⟨_, rfl⟩
            have HX := Lib.hid hidx
            have HM := Lib.hid (mem_at t k hlt)
            have HT := Lib.hid (take_snocB t k hlt)
            rw [hidx] at HM HT
            obtain ⟨z, hz⟩ : ∃ z : Int, (c.toNat : Int) = z := ⟨_, rfl⟩
            have HZ := Lib.hid hz
            cases hd : dgt c
            case false =>
              have HE := Lib.hid ((numL_bad (s := s) (b := true) HM.out hd).symm.trans (HN.out.symm.trans HR.out))
              have HD : Hid (∀ w, Calls Tryd.prog 41 #[.int .u8 z] w fun e w' => e = .returned (.bool false) ∧ w = w') := by rw [← hz]; exact l01Digit_any c false hd
              clear hd
              go_wp2_with (go_at_call 41; (with_reducible refine Calls.mono (HD.out _) ?_); rintro e w_ ⟨rfl, rfl⟩)
              go_ret2
              exact ⟨tup2 HE.out, HB.out⟩
            case true =>
              obtain ⟨hc1, hc2⟩ := dgt_t hd
              have HGD := Lib.hid hd
              have HD : Hid (∀ w, Calls Tryd.prog 41 #[.int .u8 z] w fun e w' => e = .returned (.bool true) ∧ w = w') := by rw [← hz]; exact l01Digit_any c true hd
              clear hd
              rw [hz] at hc1 hc2
              go_wp2_with (go_at_call 41; (with_reducible refine Calls.mono (HD.out _) ?_); rintro e w_ ⟨rfl, rfl⟩)
              go_roundw
              case rel => exact ⟨k + 1, by omega, by go_num, by rw [HT.out, val_snoc, HV.out, HZ.out], by unfold Hid; rw [HT.out]; intro d hd; rcases List.mem_append.1 hd with h | h; exact hall.out d h; rw [List.mem_singleton.1 h]; exact HGD.out, HB.out⟩
              case measure => first | (simp [intOf]; done) | (simp [intOf]; omega)
          · obtain rfl : k = t.size := by omega
            have htake : Hid (t.data.toList.take t.size = t.data.toList) := by unfold Hid; rw [List.take_of_length_le (by rw [ba_len]; exact Nat.le_refl _)]
            have hv2 : v ≤ 999999999999999999 := by
              have h2 : 10 ^ t.size ≤ 10 ^ 18 := Nat.pow_le_pow_right (by omega) (by omega)
              omega
            have hv0 := hvb.1
            have HV2 : Hid (sgn true (val t.data.toList) = -v) := by unfold Hid; rw [← htake.out, HV.out]; rfl
            have HA2 : Hid (∀ c ∈ t.data.toList, dgt c = true) := by unfold Hid; rw [← htake.out]; exact hall.out
            clear hvb
            have HDC : Hid (∀ W, Below w.heap.size w W → Calls Tryd.prog 40 #[.int .i64 (-v)] W fun e w' => e = .returned (.string (decS (-v))) ∧ Below W.heap.size W w') := fun W hbW => l01Dec_any (-v) (by omega) (by omega) W
            by_cases heq : decS (-v) = s
            · have HE := Lib.hid ((numL_yes (s := s) (b := true) (by rw [ba_len]; exact hm1) (by rw [ba_len]; exact hm2) HA2.out (by rw [HV2.out]; exact heq)).symm.trans (HN.out.symm.trans HR.out))
              rw [heq] at HDC
              clear heq
              go_wp2_with (go_at_call 40; (with_reducible refine Calls.mono (HDC.out _ HB.out) ?_); rintro e w_ ⟨rfl, hb1⟩)
              go_ret2
              exact ⟨tup2 (by rw [← HV2.out]; exact HE.out), Below.via hb1 HB.out HB.out.size⟩
            · have HE := Lib.hid ((numL_ne (s := s) (b := true) (by rw [HV2.out]; exact heq)).symm.trans (HN.out.symm.trans HR.out))
              obtain ⟨d, hdd⟩ : ∃ d, decS (-v) = d := ⟨_, rfl⟩
              rw [hdd] at HDC heq
              have hcmp : (d.toList == s.toList) = false := by rw [beq_eq_false_iff_ne]; intro h; exact heq (toList_inj h)
              clear heq hdd
              go_wp2_with (go_at_call 40; (with_reducible refine Calls.mono (HDC.out _ HB.out) ?_); rintro e w_ ⟨rfl, hb1⟩)
              go_ret2
              exact ⟨tup2 HE.out, Below.via hb1 HB.out HB.out.size⟩
end Go.Proofs.YteeplmnjipddaaaDoor
