/- ReadTime, the program. Conditions: the table of powers as it is laid. -/
import Derived.Test.YtbepfonpfnllkaaDoorG21
import Derived.Test.YtbepfonpfnllkaaDoorG22
import Derived.Test.YtbepfonpfnllkaaDoorG05
namespace Go.Proofs.YtbepfonpfnllkaaDoor
set_option linter.unusedSimpArgs false
set_option linter.unusedVariables false
open Go.RowKit Go.WideShapes Go.ChangeShapes

def EB : ByteArray := ⟨#[]⟩
theorem digW_long {l : List UInt8} (h : 5 < l.length) : digW l = false := by rw [digW, decide_eq_false (by omega)]; rfl
theorem digW_bad {l : List UInt8} {c : UInt8} (hc : c ∈ l) (h : dgt c = false) : digW l = false := by
  rw [digW, Bool.and_eq_false_iff]
  right
  rw [List.all_eq_false]
  exact ⟨c, hc, by rw [h]; decide⟩
theorem digW_bd {l : List UInt8} (h : digW l = true) : 0 ≤ val l ∧ val l ≤ 99999 := by
  rw [digW, Bool.and_eq_true, decide_eq_true_eq] at h
  have := val_le l 5 (List.all_eq_true.1 h.2) h.1
  omega
theorem digW_yes {l : List UInt8} (h : l.length ≤ 5) (h2 : ∀ c ∈ l, dgt c = true) : digW l = true := by rw [digW, List.all_eq_true.2 h2, decide_eq_true h]; rfl
set_option maxRecDepth 4000 in
set_option maxHeartbeats 8000000 in
theorem ReadTime_any (s : ByteArray) (n0 : Int) (ok : Bool) (hr : rdT s = (n0, ok)) (hs : s.size ≤ 1048576) (w : World) (ht : TabW w) :
    Calls Tryd.prog 7 #[.string s] w fun e w' => e = .returned (.tuple #[.int .i64 n0, .bool ok]) ∧ Below w.heap.size w w' := by
  have HR := Lib.hid hr
  clear hr
  obtain ⟨f1, r1, g1, h1⟩ : ∃ f r b, cutB 58 s = (f, r, b) := ⟨_, _, _, rfl⟩
  obtain ⟨f2, r2, g2, h2⟩ : ∃ f r b, cutB 58 r1 = (f, r, b) := ⟨_, _, _, rfl⟩
  obtain ⟨f3, r3, g3, h3⟩ : ∃ f r b, cutB 46 r2 = (f, r, b) := ⟨_, _, _, rfl⟩
  have L1 := cut_len 58 s
  have L2 := cut_len 58 r1
  have L3 := cut_len 46 r2
  rw [h1] at L1
  rw [h2] at L2
  rw [h3] at L3
  simp only at L1 L2 L3
  have ef1 : (cutL 58 s.data.toList).1 = f1.data.toList := by have := congrArg (fun q => q.1.data.toList) h1; simpa [cutB] using this
  have er1 : (cutL 58 s.data.toList).2.1 = r1.data.toList := by have := congrArg (fun q => q.2.1.data.toList) h1; simpa [cutB] using this
  have ef2 : (cutL 58 r1.data.toList).1 = f2.data.toList := by have := congrArg (fun q => q.1.data.toList) h2; simpa [cutB] using this
  have er2 : (cutL 58 r1.data.toList).2.1 = r2.data.toList := by have := congrArg (fun q => q.2.1.data.toList) h2; simpa [cutB] using this
  have ef3 : (cutL 46 r2.data.toList).1 = f3.data.toList := by have := congrArg (fun q => q.1.data.toList) h3; simpa [cutB] using this
  have er3 : (cutL 46 r2.data.toList).2.1 = r3.data.toList := by have := congrArg (fun q => q.2.1.data.toList) h3; simpa [cutB] using this
  have HPB : Hid (pIb s.data.toList = (digW f1.data.toList && digW f2.data.toList && digW f3.data.toList && digW r3.data.toList)) := by unfold Hid pIb; rw [er1, er2, ef1, ef2, ef3, er3]
  have HPV : Hid (pIv s.data.toList = val f1.data.toList * 3600000 + val f2.data.toList * 60000 + val f3.data.toList * 1000 + val r3.data.toList) := by unfold Hid pIv; rw [er1, er2, ef1, ef2, ef3, er3]
  have C1 := Lib.hid h1
  have C2 := Lib.hid h2
  have C3 := Lib.hid h3
  have hs1 : r1.size ≤ 1048576 := by omega
  have hs2 : r2.size ≤ 1048576 := by omega
  have hs3 : r3.size ≤ 1048576 := by omega
  have hsf1 : f1.size ≤ 1048576 := by omega
  have hsf2 : f2.size ≤ 1048576 := by omega
  have hsf3 : f3.size ≤ 1048576 := by omega
  clear h1 h2 h3 ef1 er1 ef2 er2 ef3 er3 L1 L2 L3
  have K0 := Lib.hid ((Keeps.nil w).box (g := w.heap.size) rfl #[.string ⟨#[58]⟩, .string ⟨#[58]⟩, .string ⟨#[46]⟩, .string ⟨#[]⟩] 9)
  go_enter Tryd.func7, Tryd.ntmps7
  go_wp2_with fail
  go_loopw [4, 5, 6, 16] (fun u t r i wr => ∃ k : Nat, k ≤ 4 ∧ i = .int .i64 k ∧ r = .string ([s, r1, r2, r3, EB].getD k EB) ∧ u = .int .i64 (([3600000, 60000, 1000, 1, 1] : List Int).getD k 0) ∧ t = .int .i64 (([0, val f1.data.toList * 3600000, val f1.data.toList * 3600000 + val f2.data.toList * 60000, val f1.data.toList * 3600000 + val f2.data.toList * 60000 + val f3.data.toList * 1000, val f1.data.toList * 3600000 + val f2.data.toList * 60000 + val f3.data.toList * 1000 + val r3.data.toList] : List Int).getD k 0) ∧ Hid (∀ j, j < k → digW (([f1, f2, f3, r3].getD j EB).data.toList) = true) ∧ Keeps w wr [(w.heap.size, #[.string ⟨#[58]⟩, .string ⟨#[58]⟩, .string ⟨#[46]⟩, .string ⟨#[]⟩])]) (fun _ _ _ i _ => 4 - (intOf i).toNat)
  case atStart => exact ⟨0, by omega, rfl, rfl, rfl, rfl, fun j hj => absurd hj (by omega), K0.out⟩
  case round =>
    obtain ⟨k, hk, rfl, e1, e2, e3, hall, hkp⟩ := hrel
    rename World => wo
    have HK := Lib.hid hkp
    obtain ⟨hbl, ⟨kl0, kc0⟩, _⟩ := hkp
    have c0 := kc0 0
    have c1 := kc0 1
    have c2 := kc0 2
    have c3 := kc0 3
    clear kc0
    have hkc : k = 0 ∨ k = 1 ∨ k = 2 ∨ k = 3 ∨ k = 4 := by omega
    rcases hkc with rfl | rfl | rfl | rfl | rfl
    · obtain rfl := e1
      obtain rfl := e2
      obtain rfl := e3
      simp only [List.getD_cons_zero, List.getD_cons_succ] at *
      go_wp2_with fail
      refine (cut_any 58 s _ f1 r1 g1 rfl C1.out hs _).mono ?_
      rintro e w1 ⟨rfl, hb1⟩
      replace HK := Lib.hid (HK.out.later hb1)
      clear hb1
      go_wp2_with fail
      go_loopw [11, 32] (fun nv i w2 => ∃ j : Nat, j ≤ f1.size ∧ j ≤ 5 ∧ i = .int .i64 j ∧ nv = .int .i64 (val (f1.data.toList.take j)) ∧ Hid (∀ c ∈ f1.data.toList.take j, dgt c = true) ∧ Keeps w w2 [(w.heap.size, #[.string ⟨#[58]⟩, .string ⟨#[58]⟩, .string ⟨#[46]⟩, .string ⟨#[]⟩])]) (fun _ i _ => f1.size - (intOf i).toNat)
      case atStart => exact ⟨0, Nat.zero_le _, by omega, rfl, rfl, by unfold Hid; simp, HK.out⟩
      case round =>
        obtain ⟨j, hj, hj5, rfl, rfl, hd, hkp2⟩ := hrel
        have HK2 := Lib.hid hkp2
        clear hkp2
        obtain ⟨v0, hv0⟩ : ∃ v, val (f1.data.toList.take j) = v := ⟨_, rfl⟩
        have hvb := val_le (f1.data.toList.take j) 5 hd.out (by rw [List.length_take]; omega)
        rw [hv0] at hvb
        rw [hv0]
        have HV0 := Lib.hid hv0
        clear hv0
        have hvb0 := hvb.1
        have hvb1 : v0 ≤ 99999 := by have := hvb.2; omega
        clear hvb
        by_cases hlt : j < f1.size
        · obtain ⟨c, hidx⟩ : ∃ c, f1[j] = c := ⟨_, rfl⟩
          have HM := Lib.hid (mem_at f1 j hlt)
          have HT := Lib.hid (take_snocB f1 j hlt)
          rw [hidx] at HM HT
          obtain ⟨z, hz⟩ : ∃ z : Int, (c.toNat : Int) = z := ⟨_, rfl⟩
          have HZ := Lib.hid hz
          have hz0 : 0 ≤ z := by omega
          cases hdg : dgt c
          case false =>
            have HE : Hid ((0, false) = (n0, ok)) := (rdT_rej (fun h => by rw [HPB.out, digW_bad HM.out hdg] at h; simp at h)).symm.trans HR.out
            have hzz : z < 48 ∨ 57 < z := by
              simp only [dgt, decide_eq_false_iff_not] at hdg
              omega
            clear hdg
            rcases hzz with hzz | hzz
            · have hd1 : decide (z < 48) = true := decide_eq_true hzz
              go_wp2_with fail
              go_ret2
              exact ⟨tup_t HE.out, HK2.out.b⟩
            · have hd1 : decide (z < 48) = false := decide_eq_false (by omega)
              have hd2 : decide (57 < z) = true := decide_eq_true hzz
              go_wp2_with fail
              go_ret2
              exact ⟨tup_t HE.out, HK2.out.b⟩
          case true =>
            obtain ⟨hc1, hc2⟩ := dgt_t hdg
            rw [hz] at hc1 hc2
            have HGD := Lib.hid hdg
            have hd1 : decide (z < 48) = false := decide_eq_false (by omega)
            have hd2 : decide (57 < z) = false := decide_eq_false (by omega)
            clear hdg
            by_cases h4 : j ≤ 4
            · go_wp2_with fail
              go_roundw
              case rel => exact ⟨j + 1, by omega, by omega, by go_num, by rw [HT.out, val_snoc, HV0.out, HZ.out], by unfold Hid; rw [HT.out]; intro d hd2; rcases List.mem_append.1 hd2 with h | h; exact hd.out d h; rw [List.mem_singleton.1 h]; exact HGD.out, HK2.out⟩
              case measure => first | (simp [intOf]; done) | (simp [intOf]; omega)
            · have HE : Hid ((0, false) = (n0, ok)) := (rdT_rej (fun h => by rw [HPB.out, digW_long (l := f1.data.toList) (by rw [ba_len]; omega)] at h; simp at h)).symm.trans HR.out
              go_wp2_with fail
              go_ret2
              exact ⟨tup_t HE.out, HK2.out.b⟩
        · obtain rfl : j = f1.size := by omega
          have htake : f1.data.toList.take f1.size = f1.data.toList := List.take_of_length_le (by rw [ba_len]; exact Nat.le_refl _)
          have h2 := hd.out
          have h3 := HV0.out
          rw [htake] at h2 h3
          have HW : Hid (digW f1.data.toList = true) := digW_yes (by rw [ba_len]; omega) h2
          have HVV := Lib.hid h3
          clear h2 h3 htake
          go_wp2_with fail
          go_roundw
          case rel => exact ⟨1, by omega, by go_num, rfl, rfl, by simp only [List.getD_cons_zero, List.getD_cons_succ]; rw [HVV.out], fun q hq => by
            have hqc : q = 0 := by omega
            subst hqc
            exact HW.out, HK2.out⟩
          case measure => first | (simp [intOf]; done) | (simp [intOf]; omega)
    · obtain rfl := e1
      obtain rfl := e2
      obtain rfl := e3
      have hw0 := hall.out 0 (by omega)
      have vb0 := digW_bd hw0
      simp only [List.getD_cons_zero, List.getD_cons_succ] at *
      obtain ⟨tk, htk⟩ : ∃ t : Int, val f1.data.toList * 3600000 = t := ⟨_, rfl⟩
      have HTK := Lib.hid htk
      have htb : 0 ≤ tk ∧ tk ≤ 999999999999 := by rw [← htk]; omega
      try rw [htk]
      obtain ⟨htb0, htb1⟩ := htb
      clear htk
      go_wp2_with fail
      refine (cut_any 58 r1 _ f2 r2 g2 rfl C2.out hs1 _).mono ?_
      rintro e w1 ⟨rfl, hb1⟩
      replace HK := Lib.hid (HK.out.later hb1)
      clear hb1
      go_wp2_with fail
      go_loopw [11, 32] (fun nv i w2 => ∃ j : Nat, j ≤ f2.size ∧ j ≤ 5 ∧ i = .int .i64 j ∧ nv = .int .i64 (val (f2.data.toList.take j)) ∧ Hid (∀ c ∈ f2.data.toList.take j, dgt c = true) ∧ Keeps w w2 [(w.heap.size, #[.string ⟨#[58]⟩, .string ⟨#[58]⟩, .string ⟨#[46]⟩, .string ⟨#[]⟩])]) (fun _ i _ => f2.size - (intOf i).toNat)
      case atStart => exact ⟨0, Nat.zero_le _, by omega, rfl, rfl, by unfold Hid; simp, HK.out⟩
      case round =>
        obtain ⟨j, hj, hj5, rfl, rfl, hd, hkp2⟩ := hrel
        have HK2 := Lib.hid hkp2
        clear hkp2
        obtain ⟨v0, hv0⟩ : ∃ v, val (f2.data.toList.take j) = v := ⟨_, rfl⟩
        have hvb := val_le (f2.data.toList.take j) 5 hd.out (by rw [List.length_take]; omega)
        rw [hv0] at hvb
        rw [hv0]
        have HV0 := Lib.hid hv0
        clear hv0
        have hvb0 := hvb.1
        have hvb1 : v0 ≤ 99999 := by have := hvb.2; omega
        clear hvb
        by_cases hlt : j < f2.size
        · obtain ⟨c, hidx⟩ : ∃ c, f2[j] = c := ⟨_, rfl⟩
          have HM := Lib.hid (mem_at f2 j hlt)
          have HT := Lib.hid (take_snocB f2 j hlt)
          rw [hidx] at HM HT
          obtain ⟨z, hz⟩ : ∃ z : Int, (c.toNat : Int) = z := ⟨_, rfl⟩
          have HZ := Lib.hid hz
          have hz0 : 0 ≤ z := by omega
          cases hdg : dgt c
          case false =>
            have HE : Hid ((0, false) = (n0, ok)) := (rdT_rej (fun h => by rw [HPB.out, digW_bad HM.out hdg] at h; simp at h)).symm.trans HR.out
            have hzz : z < 48 ∨ 57 < z := by
              simp only [dgt, decide_eq_false_iff_not] at hdg
              omega
            clear hdg
            rcases hzz with hzz | hzz
            · have hd1 : decide (z < 48) = true := decide_eq_true hzz
              go_wp2_with fail
              go_ret2
              exact ⟨tup_t HE.out, HK2.out.b⟩
            · have hd1 : decide (z < 48) = false := decide_eq_false (by omega)
              have hd2 : decide (57 < z) = true := decide_eq_true hzz
              go_wp2_with fail
              go_ret2
              exact ⟨tup_t HE.out, HK2.out.b⟩
          case true =>
            obtain ⟨hc1, hc2⟩ := dgt_t hdg
            rw [hz] at hc1 hc2
            have HGD := Lib.hid hdg
            have hd1 : decide (z < 48) = false := decide_eq_false (by omega)
            have hd2 : decide (57 < z) = false := decide_eq_false (by omega)
            clear hdg
            by_cases h4 : j ≤ 4
            · go_wp2_with fail
              go_roundw
              case rel => exact ⟨j + 1, by omega, by omega, by go_num, by rw [HT.out, val_snoc, HV0.out, HZ.out], by unfold Hid; rw [HT.out]; intro d hd2; rcases List.mem_append.1 hd2 with h | h; exact hd.out d h; rw [List.mem_singleton.1 h]; exact HGD.out, HK2.out⟩
              case measure => first | (simp [intOf]; done) | (simp [intOf]; omega)
            · have HE : Hid ((0, false) = (n0, ok)) := (rdT_rej (fun h => by rw [HPB.out, digW_long (l := f2.data.toList) (by rw [ba_len]; omega)] at h; simp at h)).symm.trans HR.out
              go_wp2_with fail
              go_ret2
              exact ⟨tup_t HE.out, HK2.out.b⟩
        · obtain rfl : j = f2.size := by omega
          have htake : f2.data.toList.take f2.size = f2.data.toList := List.take_of_length_le (by rw [ba_len]; exact Nat.le_refl _)
          have h2 := hd.out
          have h3 := HV0.out
          rw [htake] at h2 h3
          have HW : Hid (digW f2.data.toList = true) := digW_yes (by rw [ba_len]; omega) h2
          have HVV := Lib.hid h3
          clear h2 h3 htake
          go_wp2_with fail
          go_roundw
          case rel => exact ⟨2, by omega, by go_num, rfl, rfl, by simp only [List.getD_cons_zero, List.getD_cons_succ]; rw [HVV.out], fun q hq => by
            have hqc : q = 0 ∨ q = 1 := by omega
            rcases hqc with rfl | rfl
            · exact hw0
            · exact HW.out, HK2.out⟩
          case measure => first | (simp [intOf]; done) | (simp [intOf]; omega)
    · obtain rfl := e1
      obtain rfl := e2
      obtain rfl := e3
      have hw0 := hall.out 0 (by omega)
      have vb0 := digW_bd hw0
      have hw1 := hall.out 1 (by omega)
      have vb1 := digW_bd hw1
      simp only [List.getD_cons_zero, List.getD_cons_succ] at *
      obtain ⟨tk, htk⟩ : ∃ t : Int, val f1.data.toList * 3600000 + val f2.data.toList * 60000 = t := ⟨_, rfl⟩
      have HTK := Lib.hid htk
      have htb : 0 ≤ tk ∧ tk ≤ 999999999999 := by rw [← htk]; omega
      try rw [htk]
      obtain ⟨htb0, htb1⟩ := htb
      clear htk
      go_wp2_with fail
      refine (cut_any 46 r2 _ f3 r3 g3 rfl C3.out hs2 _).mono ?_
      rintro e w1 ⟨rfl, hb1⟩
      replace HK := Lib.hid (HK.out.later hb1)
      clear hb1
      go_wp2_with fail
      go_loopw [11, 32] (fun nv i w2 => ∃ j : Nat, j ≤ f3.size ∧ j ≤ 5 ∧ i = .int .i64 j ∧ nv = .int .i64 (val (f3.data.toList.take j)) ∧ Hid (∀ c ∈ f3.data.toList.take j, dgt c = true) ∧ Keeps w w2 [(w.heap.size, #[.string ⟨#[58]⟩, .string ⟨#[58]⟩, .string ⟨#[46]⟩, .string ⟨#[]⟩])]) (fun _ i _ => f3.size - (intOf i).toNat)
      case atStart => exact ⟨0, Nat.zero_le _, by omega, rfl, rfl, by unfold Hid; simp, HK.out⟩
      case round =>
        obtain ⟨j, hj, hj5, rfl, rfl, hd, hkp2⟩ := hrel
        have HK2 := Lib.hid hkp2
        clear hkp2
        obtain ⟨v0, hv0⟩ : ∃ v, val (f3.data.toList.take j) = v := ⟨_, rfl⟩
        have hvb := val_le (f3.data.toList.take j) 5 hd.out (by rw [List.length_take]; omega)
        rw [hv0] at hvb
        rw [hv0]
        have HV0 := Lib.hid hv0
        clear hv0
        have hvb0 := hvb.1
        have hvb1 : v0 ≤ 99999 := by have := hvb.2; omega
        clear hvb
        by_cases hlt : j < f3.size
        · obtain ⟨c, hidx⟩ : ∃ c, f3[j] = c := ⟨_, rfl⟩
          have HM := Lib.hid (mem_at f3 j hlt)
          have HT := Lib.hid (take_snocB f3 j hlt)
          rw [hidx] at HM HT
          obtain ⟨z, hz⟩ : ∃ z : Int, (c.toNat : Int) = z := ⟨_, rfl⟩
          have HZ := Lib.hid hz
          have hz0 : 0 ≤ z := by omega
          cases hdg : dgt c
          case false =>
            have HE : Hid ((0, false) = (n0, ok)) := (rdT_rej (fun h => by rw [HPB.out, digW_bad HM.out hdg] at h; simp at h)).symm.trans HR.out
            have hzz : z < 48 ∨ 57 < z := by
              simp only [dgt, decide_eq_false_iff_not] at hdg
              omega
            clear hdg
            rcases hzz with hzz | hzz
            · have hd1 : decide (z < 48) = true := decide_eq_true hzz
              go_wp2_with fail
              go_ret2
              exact ⟨tup_t HE.out, HK2.out.b⟩
            · have hd1 : decide (z < 48) = false := decide_eq_false (by omega)
              have hd2 : decide (57 < z) = true := decide_eq_true hzz
              go_wp2_with fail
              go_ret2
              exact ⟨tup_t HE.out, HK2.out.b⟩
          case true =>
            obtain ⟨hc1, hc2⟩ := dgt_t hdg
            rw [hz] at hc1 hc2
            have HGD := Lib.hid hdg
            have hd1 : decide (z < 48) = false := decide_eq_false (by omega)
            have hd2 : decide (57 < z) = false := decide_eq_false (by omega)
            clear hdg
            by_cases h4 : j ≤ 4
            · go_wp2_with fail
              go_roundw
              case rel => exact ⟨j + 1, by omega, by omega, by go_num, by rw [HT.out, val_snoc, HV0.out, HZ.out], by unfold Hid; rw [HT.out]; intro d hd2; rcases List.mem_append.1 hd2 with h | h; exact hd.out d h; rw [List.mem_singleton.1 h]; exact HGD.out, HK2.out⟩
              case measure => first | (simp [intOf]; done) | (simp [intOf]; omega)
            · have HE : Hid ((0, false) = (n0, ok)) := (rdT_rej (fun h => by rw [HPB.out, digW_long (l := f3.data.toList) (by rw [ba_len]; omega)] at h; simp at h)).symm.trans HR.out
              go_wp2_with fail
              go_ret2
              exact ⟨tup_t HE.out, HK2.out.b⟩
        · obtain rfl : j = f3.size := by omega
          have htake : f3.data.toList.take f3.size = f3.data.toList := List.take_of_length_le (by rw [ba_len]; exact Nat.le_refl _)
          have h2 := hd.out
          have h3 := HV0.out
          rw [htake] at h2 h3
          have HW : Hid (digW f3.data.toList = true) := digW_yes (by rw [ba_len]; omega) h2
          have HVV := Lib.hid h3
          clear h2 h3 htake
          go_wp2_with fail
          go_roundw
          case rel => exact ⟨3, by omega, by go_num, rfl, rfl, by simp only [List.getD_cons_zero, List.getD_cons_succ]; rw [HVV.out], fun q hq => by
            have hqc : q = 0 ∨ q = 1 ∨ q = 2 := by omega
            rcases hqc with rfl | rfl | rfl
            · exact hw0
            · exact hw1
            · exact HW.out, HK2.out⟩
          case measure => first | (simp [intOf]; done) | (simp [intOf]; omega)
    · obtain rfl := e1
      obtain rfl := e2
      obtain rfl := e3
      have hw0 := hall.out 0 (by omega)
      have vb0 := digW_bd hw0
      have hw1 := hall.out 1 (by omega)
      have vb1 := digW_bd hw1
      have hw2 := hall.out 2 (by omega)
      have vb2 := digW_bd hw2
      simp only [List.getD_cons_zero, List.getD_cons_succ] at *
      obtain ⟨tk, htk⟩ : ∃ t : Int, val f1.data.toList * 3600000 + val f2.data.toList * 60000 + val f3.data.toList * 1000 = t := ⟨_, rfl⟩
      have HTK := Lib.hid htk
      have htb : 0 ≤ tk ∧ tk ≤ 999999999999 := by rw [← htk]; omega
      try rw [htk]
      obtain ⟨htb0, htb1⟩ := htb
      clear htk
      go_wp2_with fail
      go_loopw [11, 32] (fun nv i w2 => ∃ j : Nat, j ≤ r3.size ∧ j ≤ 5 ∧ i = .int .i64 j ∧ nv = .int .i64 (val (r3.data.toList.take j)) ∧ Hid (∀ c ∈ r3.data.toList.take j, dgt c = true) ∧ Keeps w w2 [(w.heap.size, #[.string ⟨#[58]⟩, .string ⟨#[58]⟩, .string ⟨#[46]⟩, .string ⟨#[]⟩])]) (fun _ i _ => r3.size - (intOf i).toNat)
      case atStart => exact ⟨0, Nat.zero_le _, by omega, rfl, rfl, by unfold Hid; simp, HK.out⟩
      case round =>
        obtain ⟨j, hj, hj5, rfl, rfl, hd, hkp2⟩ := hrel
        have HK2 := Lib.hid hkp2
        clear hkp2
        obtain ⟨v0, hv0⟩ : ∃ v, val (r3.data.toList.take j) = v := ⟨_, rfl⟩
        have hvb := val_le (r3.data.toList.take j) 5 hd.out (by rw [List.length_take]; omega)
        rw [hv0] at hvb
        rw [hv0]
        have HV0 := Lib.hid hv0
        clear hv0
        have hvb0 := hvb.1
        have hvb1 : v0 ≤ 99999 := by have := hvb.2; omega
        clear hvb
        by_cases hlt : j < r3.size
        · obtain ⟨c, hidx⟩ : ∃ c, r3[j] = c := ⟨_, rfl⟩
          have HM := Lib.hid (mem_at r3 j hlt)
          have HT := Lib.hid (take_snocB r3 j hlt)
          rw [hidx] at HM HT
          obtain ⟨z, hz⟩ : ∃ z : Int, (c.toNat : Int) = z := ⟨_, rfl⟩
          have HZ := Lib.hid hz
          have hz0 : 0 ≤ z := by omega
          cases hdg : dgt c
          case false =>
            have HE : Hid ((0, false) = (n0, ok)) := (rdT_rej (fun h => by rw [HPB.out, digW_bad HM.out hdg] at h; simp at h)).symm.trans HR.out
            have hzz : z < 48 ∨ 57 < z := by
              simp only [dgt, decide_eq_false_iff_not] at hdg
              omega
            clear hdg
            rcases hzz with hzz | hzz
            · have hd1 : decide (z < 48) = true := decide_eq_true hzz
              go_wp2_with fail
              go_ret2
              exact ⟨tup_t HE.out, HK2.out.b⟩
            · have hd1 : decide (z < 48) = false := decide_eq_false (by omega)
              have hd2 : decide (57 < z) = true := decide_eq_true hzz
              go_wp2_with fail
              go_ret2
              exact ⟨tup_t HE.out, HK2.out.b⟩
          case true =>
            obtain ⟨hc1, hc2⟩ := dgt_t hdg
            rw [hz] at hc1 hc2
            have HGD := Lib.hid hdg
            have hd1 : decide (z < 48) = false := decide_eq_false (by omega)
            have hd2 : decide (57 < z) = false := decide_eq_false (by omega)
            clear hdg
            by_cases h4 : j ≤ 4
            · go_wp2_with fail
              go_roundw
              case rel => exact ⟨j + 1, by omega, by omega, by go_num, by rw [HT.out, val_snoc, HV0.out, HZ.out], by unfold Hid; rw [HT.out]; intro d hd2; rcases List.mem_append.1 hd2 with h | h; exact hd.out d h; rw [List.mem_singleton.1 h]; exact HGD.out, HK2.out⟩
              case measure => first | (simp [intOf]; done) | (simp [intOf]; omega)
            · have HE : Hid ((0, false) = (n0, ok)) := (rdT_rej (fun h => by rw [HPB.out, digW_long (l := r3.data.toList) (by rw [ba_len]; omega)] at h; simp at h)).symm.trans HR.out
              go_wp2_with fail
              go_ret2
              exact ⟨tup_t HE.out, HK2.out.b⟩
        · obtain rfl : j = r3.size := by omega
          have htake : r3.data.toList.take r3.size = r3.data.toList := List.take_of_length_le (by rw [ba_len]; exact Nat.le_refl _)
          have h2 := hd.out
          have h3 := HV0.out
          rw [htake] at h2 h3
          have HW : Hid (digW r3.data.toList = true) := digW_yes (by rw [ba_len]; omega) h2
          have HVV := Lib.hid h3
          clear h2 h3 htake
          go_wp2_with fail
          go_roundw
          case rel => exact ⟨4, by omega, by go_num, rfl, rfl, by simp only [List.getD_cons_zero, List.getD_cons_succ]; rw [HVV.out], fun q hq => by
            have hqc : q = 0 ∨ q = 1 ∨ q = 2 ∨ q = 3 := by omega
            rcases hqc with rfl | rfl | rfl | rfl
            · exact hw0
            · exact hw1
            · exact hw2
            · exact HW.out, HK2.out⟩
          case measure => first | (simp [intOf]; done) | (simp [intOf]; omega)
    · obtain rfl := e1
      obtain rfl := e2
      obtain rfl := e3
      have hw0 := hall.out 0 (by omega)
      have hw1 := hall.out 1 (by omega)
      have hw2 := hall.out 2 (by omega)
      have hw3 := hall.out 3 (by omega)
      simp only [List.getD_cons_zero, List.getD_cons_succ] at *
      have HB : Hid (pIb s.data.toList = true) := by unfold Hid; rw [HPB.out, hw0, hw1, hw2, hw3]; rfl
      rw [← HPV.out]
      obtain ⟨n, hn⟩ : ∃ n, pIv s.data.toList = n := ⟨_, rfl⟩
      rw [hn]
      obtain ⟨t, htx⟩ : ∃ t, timeX n = t := ⟨_, rfl⟩
      have HTX := Lib.hid htx
      have HN := Lib.hid hn
      by_cases hts : t = s
      · subst hts
        have HE : Hid ((n, true) = (n0, ok)) := by
          have q := rdT_acc HB.out (by rw [hn]; exact htx)
          rw [hn] at q
          exact q.symm.trans HR.out
        clear hn htx
        go_wp2_with (go_at_call 6; (with_reducible refine Calls.mono (TimeText_any n t HTX.out _ (ht.later HK.out.b)) ?_); rintro e w5 ⟨rfl, hb5⟩)
        go_ret2
        exact ⟨tup_t HE.out, (HK.out.later hb5).b⟩
      · have HE : Hid ((0, false) = (n0, ok)) := (rdT_rej (fun h => by rw [hn, htx] at h; exact hts h.2)).symm.trans HR.out
        have hcmp : (t.toList == s.toList) = false := by rw [beq_eq_false_iff_ne]; intro h; exact hts (toList_inj h)
        clear hn htx hts
        go_wp2_with (go_at_call 6; (with_reducible refine Calls.mono (TimeText_any n t HTX.out _ (ht.later HK.out.b)) ?_); rintro e w5 ⟨rfl, hb5⟩)
        go_ret2
        exact ⟨tup_t HE.out, (HK.out.later hb5).b⟩
end Go.Proofs.YtbepfonpfnllkaaDoor
