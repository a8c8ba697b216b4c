/- ReadTime, the reference. Conditions: none beyond the length. -/
import Derived.Test.YtbepfonpfnllkaaDoorG20
namespace Go.Proofs.YtbepfonpfnllkaaDoor
set_option linter.unusedSimpArgs false
set_option linter.unusedVariables false
open Go.RowKit Go.WideShapes Go.ChangeShapes

theorem tup_t {n n' : Int} {b b' : Bool} (h : (n, b) = (n', b')) : Ending.returned (.tuple #[.int .i64 n, .bool b]) = .returned (.tuple #[.int .i64 n', .bool b']) := by
  injection h with h1 h2
  rw [h1, h2]
set_option maxRecDepth 4000 in
set_option maxHeartbeats 4000000 in
theorem sReadTime_any (s : ByteArray) (n0 : Int) (ok : Bool) (hr : rdT s = (n0, ok)) (hs : s.size ≤ 1048576) (w : World) :
    Calls Tryd.prog 9 #[.string s] w fun e w' => e = .returned (.tuple #[.int .i64 n0, .bool ok]) ∧ Below w.heap.size w w' := by
  have HR := Lib.hid hr
  clear hr
  by_cases hz : s.size = 11 ∨ s.size = 12
  case neg =>
    have HE : Hid ((0, false) = (n0, ok)) := (rdT_no (fun n h0 h1 h => hz (pS_time h0 h1 h).1)).symm.trans HR.out
    by_cases h11 : s.size < 11
    · go_enter Tryd.func9, Tryd.ntmps9
      go_wp2_with fail
      go_ret2
      exact ⟨tup_t HE.out, by (repeat' (first | (with_reducible exact Below.refl _ _) | (with_reducible assumption) | (with_reducible refine Below.alloc ?_ ?_ _) | (with_reducible refine Below.drew ?_) | (with_reducible refine belowDrewN ?_ _) | (with_reducible refine Below.setCell ?_ ?_ _) | (with_reducible refine Below.via (by with_reducible assumption) ?_ ?_) | (with_reducible refine Below.viaD (by with_reducible assumption) ?_ ?_) | (with_reducible exact Below.size (by with_reducible assumption)) | go_size | (with_reducible refine Nat.le_trans ?_ (Below.size (by with_reducible assumption))) | (with_reducible refine Nat.le_trans ?_ (sizeAlloc _ _)) | (with_reducible refine Nat.le_trans ?_ (sizeSet _ _ _)) | (with_reducible refine Nat.le_trans ?_ (sizeDrew _))))⟩
    · have h12 : 12 < s.size := by omega
      go_enter Tryd.func9, Tryd.ntmps9
      go_wp2_with fail
      go_ret2
      exact ⟨tup_t HE.out, by (repeat' (first | (with_reducible exact Below.refl _ _) | (with_reducible assumption) | (with_reducible refine Below.alloc ?_ ?_ _) | (with_reducible refine Below.drew ?_) | (with_reducible refine belowDrewN ?_ _) | (with_reducible refine Below.setCell ?_ ?_ _) | (with_reducible refine Below.via (by with_reducible assumption) ?_ ?_) | (with_reducible refine Below.viaD (by with_reducible assumption) ?_ ?_) | (with_reducible exact Below.size (by with_reducible assumption)) | go_size | (with_reducible refine Nat.le_trans ?_ (Below.size (by with_reducible assumption))) | (with_reducible refine Nat.le_trans ?_ (sizeAlloc _ _)) | (with_reducible refine Nat.le_trans ?_ (sizeSet _ _ _)) | (with_reducible refine Nat.le_trans ?_ (sizeDrew _))))⟩
  case pos =>
  rcases hz with hz | hz
  case inl =>
    obtain ⟨t, ht⟩ : ∃ t, s.extract 0 11 = t := ⟨_, rfl⟩
    have htz : t.size = 11 := by rw [← ht, ByteArray.size_extract, hz]; rfl
    obtain ⟨q0, e0⟩ : ∃ q, s.extract 0 1 = q := ⟨_, rfl⟩
    obtain ⟨q1, e1⟩ : ∃ q, t.extract 2 4 = q := ⟨_, rfl⟩
    obtain ⟨q2, e2⟩ : ∃ q, t.extract 5 7 = q := ⟨_, rfl⟩
    obtain ⟨q3, e3⟩ : ∃ q, t.extract 8 11 = q := ⟨_, rfl⟩
    have z0 : q0.size ≤ 2 := by rw [← e0, ByteArray.size_extract, hz]; decide
    have z1 : q1.size ≤ 2 := by rw [← e1, ByteArray.size_extract, htz]; decide
    have z2 : q2.size ≤ 2 := by rw [← e2, ByteArray.size_extract, htz]; decide
    have z3 : q3.size ≤ 3 := by rw [← e3, ByteArray.size_extract, htz]; decide
    obtain ⟨v0, d0⟩ : ∃ v, digV q0.data.toList = v := ⟨_, rfl⟩
    obtain ⟨v1, d1⟩ : ∃ v, digV q1.data.toList = v := ⟨_, rfl⟩
    obtain ⟨v2, d2⟩ : ∃ v, digV q2.data.toList = v := ⟨_, rfl⟩
    obtain ⟨v3, d3⟩ : ∃ v, digV q3.data.toList = v := ⟨_, rfl⟩
    have b0 := digV_bd (l := q0.data.toList) (k := 2) (by rw [ba_len]; exact z0)
    have b1 := digV_bd (l := q1.data.toList) (k := 2) (by rw [ba_len]; exact z1)
    have b2 := digV_bd (l := q2.data.toList) (k := 2) (by rw [ba_len]; exact z2)
    have b3 := digV_bd (l := q3.data.toList) (k := 3) (by rw [ba_len]; exact z3)
    rw [d0] at b0
    rw [d1] at b1
    rw [d2] at b2
    rw [d3] at b3
    have HPS : Hid (∀ n : Int, 0 ≤ n → n ≤ 36000000 → timeT n = s → ((v0 * 60 + v1) * 60 + v2) * 1000 + v3 = n ∧ 0 ≤ v0 ∧ 0 ≤ v1 ∧ 0 ≤ v2 ∧ 0 ≤ v3) := by
      intro n h0 h1 h
      have q := (pS_time h0 h1 h).2
      rw [hz] at q
      simp only [show (11 : Nat) - 11 = 0 from rfl, show (11 : Nat) - 10 = 1 from rfl, ht, e0, e1, e2, e3, d0, d1, d2, d3] at q
      exact q
    have D0 := Lib.hid d0
    have D1 := Lib.hid d1
    have D2 := Lib.hid d2
    have D3 := Lib.hid d3
    clear d0 d1 d2 d3
    by_cases hneg : v0 < 0 ∨ v1 < 0 ∨ v2 < 0 ∨ v3 < 0
    case pos =>
      have HE : Hid ((0, false) = (n0, ok)) := (rdT_no (fun n h0 h1 h => by have := HPS.out n h0 h1 h; omega)).symm.trans HR.out
      have hdec : (decide (v0 < 0) || decide (v1 < 0) || decide (v2 < 0) || decide (v3 < 0)) = true := by simp; omega
      obtain ⟨x0, hx0⟩ : ∃ x, decide (v0 < 0) = x := ⟨_, rfl⟩
      obtain ⟨x1, hx1⟩ : ∃ x, decide (v1 < 0) = x := ⟨_, rfl⟩
      obtain ⟨x2, hx2⟩ : ∃ x, decide (v2 < 0) = x := ⟨_, rfl⟩
      obtain ⟨x3, hx3⟩ : ∃ x, decide (v3 < 0) = x := ⟨_, rfl⟩
      rw [hx0, hx1, hx2, hx3] at hdec
      have HD := Lib.hid hdec
      clear hdec hneg
      go_enter Tryd.func9, Tryd.ntmps9
      go_wp2_with fail
      refine (l23Digits_any q0 v0 D0.out (by omega) _).mono ?_
      rintro e w_ ⟨rfl, rfl⟩
      go_wp2_with fail
      refine (l23Digits_any q1 v1 D1.out (by omega) _).mono ?_
      rintro e w_ ⟨rfl, rfl⟩
      go_wp2_with fail
      refine (l23Digits_any q2 v2 D2.out (by omega) _).mono ?_
      rintro e w_ ⟨rfl, rfl⟩
      go_wp2_with fail
      refine (l23Digits_any q3 v3 D3.out (by omega) _).mono ?_
      rintro e w_ ⟨rfl, rfl⟩
      clear b0 b1 b2 b3
      cases x0 <;> cases x1 <;> cases x2 <;> cases x3
      all_goals first
        | exact absurd HD.out (by decide)
        | (go_wp2_with fail
           go_ret2
           exact ⟨tup_t HE.out, by (repeat' (first | (with_reducible exact Below.refl _ _) | (with_reducible assumption) | (with_reducible refine Below.alloc ?_ ?_ _) | (with_reducible refine Below.drew ?_) | (with_reducible refine belowDrewN ?_ _) | (with_reducible refine Below.setCell ?_ ?_ _) | (with_reducible refine Below.via (by with_reducible assumption) ?_ ?_) | (with_reducible refine Below.viaD (by with_reducible assumption) ?_ ?_) | (with_reducible exact Below.size (by with_reducible assumption)) | go_size | (with_reducible refine Nat.le_trans ?_ (Below.size (by with_reducible assumption))) | (with_reducible refine Nat.le_trans ?_ (sizeAlloc _ _)) | (with_reducible refine Nat.le_trans ?_ (sizeSet _ _ _)) | (with_reducible refine Nat.le_trans ?_ (sizeDrew _))))⟩)
    case neg =>
      have g0 : 0 ≤ v0 := by omega
      have g1 : 0 ≤ v1 := by omega
      have g2 : 0 ≤ v2 := by omega
      have g3 : 0 ≤ v3 := by omega
      have x0 : decide (v0 < 0) = false := decide_eq_false (by omega)
      have x1 : decide (v1 < 0) = false := decide_eq_false (by omega)
      have x2 : decide (v2 < 0) = false := decide_eq_false (by omega)
      have x3 : decide (v3 < 0) = false := decide_eq_false (by omega)
      clear hneg
      obtain ⟨n, hn⟩ : ∃ n, ((v0 * 60 + v1) * 60 + v2) * 1000 + v3 = n := ⟨_, rfl⟩
      have hn0 : 0 ≤ n := by omega
      have HQ : Hid (∀ m : Int, 0 ≤ m → m ≤ 36000000 → timeT m = s → m = n) := fun m h0 h1 h => by rw [← hn]; exact ((HPS.out m h0 h1 h).1).symm
      obtain ⟨tb, htb⟩ : ∃ q, tB n = q := ⟨_, rfl⟩
      have HTB := Lib.hid htb
      by_cases hok : tb = true ∧ timeT n = s
      case pos =>
        obtain ⟨rfl, heq⟩ := hok
        have hb := tB_bd htb
        have HE : Hid ((n, true) = (n0, ok)) := (rdT_yes hb.1 hb.2 heq).symm.trans HR.out
        have HEQ := Lib.hid heq
        clear heq htb
        obtain ⟨hb1, hb2⟩ := hb
        go_enter Tryd.func9, Tryd.ntmps9
        go_wp2_with fail
        refine (l23Digits_any q0 v0 D0.out (by omega) _).mono ?_
        rintro e w_ ⟨rfl, rfl⟩
        go_wp2_with fail
        refine (l23Digits_any q1 v1 D1.out (by omega) _).mono ?_
        rintro e w_ ⟨rfl, rfl⟩
        go_wp2_with fail
        refine (l23Digits_any q2 v2 D2.out (by omega) _).mono ?_
        rintro e w_ ⟨rfl, rfl⟩
        go_wp2_with fail
        refine (l23Digits_any q3 v3 D3.out (by omega) _).mono ?_
        rintro e w_ ⟨rfl, rfl⟩
        go_wp2_with (first | (go_at_call 30; (with_reducible refine Calls.mono (l23Time_any n _) ?_); rw [HTB.out]; rintro e w_ ⟨rfl, rfl⟩) | (go_at_call 26; (with_reducible refine Calls.mono (l23Text_any n hb1 hb2 _) ?_); rw [HEQ.out]; rintro e w5 ⟨rfl, hb5⟩))
        go_ret2
        exact ⟨tup_t HE.out, by (repeat' (first | (with_reducible exact Below.refl _ _) | (with_reducible assumption) | (with_reducible refine Below.alloc ?_ ?_ _) | (with_reducible refine Below.drew ?_) | (with_reducible refine belowDrewN ?_ _) | (with_reducible refine Below.setCell ?_ ?_ _) | (with_reducible refine Below.via (by with_reducible assumption) ?_ ?_) | (with_reducible refine Below.viaD (by with_reducible assumption) ?_ ?_) | (with_reducible exact Below.size (by with_reducible assumption)) | go_size | (with_reducible refine Nat.le_trans ?_ (Below.size (by with_reducible assumption))) | (with_reducible refine Nat.le_trans ?_ (sizeAlloc _ _)) | (with_reducible refine Nat.le_trans ?_ (sizeSet _ _ _)) | (with_reducible refine Nat.le_trans ?_ (sizeDrew _))))⟩
      case neg =>
        have HE : Hid ((0, false) = (n0, ok)) := (rdT_no (fun m h0 h1 h => by
          have e := HQ.out m h0 h1 h
          subst e
          exact hok ⟨by rw [← htb, tB, inB_t h0 h1], h⟩)).symm.trans HR.out
        cases tb
        case false =>
          clear htb hok
          go_enter Tryd.func9, Tryd.ntmps9
          go_wp2_with fail
          refine (l23Digits_any q0 v0 D0.out (by omega) _).mono ?_
          rintro e w_ ⟨rfl, rfl⟩
          go_wp2_with fail
          refine (l23Digits_any q1 v1 D1.out (by omega) _).mono ?_
          rintro e w_ ⟨rfl, rfl⟩
          go_wp2_with fail
          refine (l23Digits_any q2 v2 D2.out (by omega) _).mono ?_
          rintro e w_ ⟨rfl, rfl⟩
          go_wp2_with fail
          refine (l23Digits_any q3 v3 D3.out (by omega) _).mono ?_
          rintro e w_ ⟨rfl, rfl⟩
          go_wp2_with (go_at_call 30; (with_reducible refine Calls.mono (l23Time_any n _) ?_); rw [HTB.out]; rintro e w_ ⟨rfl, rfl⟩)
          go_ret2
          exact ⟨tup_t HE.out, by (repeat' (first | (with_reducible exact Below.refl _ _) | (with_reducible assumption) | (with_reducible refine Below.alloc ?_ ?_ _) | (with_reducible refine Below.drew ?_) | (with_reducible refine belowDrewN ?_ _) | (with_reducible refine Below.setCell ?_ ?_ _) | (with_reducible refine Below.via (by with_reducible assumption) ?_ ?_) | (with_reducible refine Below.viaD (by with_reducible assumption) ?_ ?_) | (with_reducible exact Below.size (by with_reducible assumption)) | go_size | (with_reducible refine Nat.le_trans ?_ (Below.size (by with_reducible assumption))) | (with_reducible refine Nat.le_trans ?_ (sizeAlloc _ _)) | (with_reducible refine Nat.le_trans ?_ (sizeSet _ _ _)) | (with_reducible refine Nat.le_trans ?_ (sizeDrew _))))⟩
        case true =>
          have hb := tB_bd htb
          obtain ⟨hb1, hb2⟩ := hb
          have hne : timeT n ≠ s := fun h => hok ⟨rfl, h⟩
          obtain ⟨tt, htt⟩ : ∃ t, timeT n = t := ⟨_, rfl⟩
          rw [htt] at hne
          have HTT := Lib.hid htt
          have hcmp : (tt.toList == s.toList) = false := by rw [beq_eq_false_iff_ne]; intro h; exact hne (toList_inj h)
          clear htb hok hne htt
          go_enter Tryd.func9, Tryd.ntmps9
          go_wp2_with fail
          refine (l23Digits_any q0 v0 D0.out (by omega) _).mono ?_
          rintro e w_ ⟨rfl, rfl⟩
          go_wp2_with fail
          refine (l23Digits_any q1 v1 D1.out (by omega) _).mono ?_
          rintro e w_ ⟨rfl, rfl⟩
          go_wp2_with fail
          refine (l23Digits_any q2 v2 D2.out (by omega) _).mono ?_
          rintro e w_ ⟨rfl, rfl⟩
          go_wp2_with fail
          refine (l23Digits_any q3 v3 D3.out (by omega) _).mono ?_
          rintro e w_ ⟨rfl, rfl⟩
          go_wp2_with (first | (go_at_call 30; (with_reducible refine Calls.mono (l23Time_any n _) ?_); rw [HTB.out]; rintro e w_ ⟨rfl, rfl⟩) | (go_at_call 26; (with_reducible refine Calls.mono (l23Text_any n hb1 hb2 _) ?_); rw [HTT.out]; rintro e w5 ⟨rfl, hb5⟩))
          go_ret2
          exact ⟨tup_t HE.out, by (repeat' (first | (with_reducible exact Below.refl _ _) | (with_reducible assumption) | (with_reducible refine Below.alloc ?_ ?_ _) | (with_reducible refine Below.drew ?_) | (with_reducible refine belowDrewN ?_ _) | (with_reducible refine Below.setCell ?_ ?_ _) | (with_reducible refine Below.via (by with_reducible assumption) ?_ ?_) | (with_reducible refine Below.viaD (by with_reducible assumption) ?_ ?_) | (with_reducible exact Below.size (by with_reducible assumption)) | go_size | (with_reducible refine Nat.le_trans ?_ (Below.size (by with_reducible assumption))) | (with_reducible refine Nat.le_trans ?_ (sizeAlloc _ _)) | (with_reducible refine Nat.le_trans ?_ (sizeSet _ _ _)) | (with_reducible refine Nat.le_trans ?_ (sizeDrew _))))⟩
  
  case inr =>
    obtain ⟨t, ht⟩ : ∃ t, s.extract 1 12 = t := ⟨_, rfl⟩
    have htz : t.size = 11 := by rw [← ht, ByteArray.size_extract, hz]; rfl
    obtain ⟨q0, e0⟩ : ∃ q, s.extract 0 2 = q := ⟨_, rfl⟩
    obtain ⟨q1, e1⟩ : ∃ q, t.extract 2 4 = q := ⟨_, rfl⟩
    obtain ⟨q2, e2⟩ : ∃ q, t.extract 5 7 = q := ⟨_, rfl⟩
    obtain ⟨q3, e3⟩ : ∃ q, t.extract 8 11 = q := ⟨_, rfl⟩
    have z0 : q0.size ≤ 2 := by rw [← e0, ByteArray.size_extract, hz]; decide
    have z1 : q1.size ≤ 2 := by rw [← e1, ByteArray.size_extract, htz]; decide
    have z2 : q2.size ≤ 2 := by rw [← e2, ByteArray.size_extract, htz]; decide
    have z3 : q3.size ≤ 3 := by rw [← e3, ByteArray.size_extract, htz]; decide
    obtain ⟨v0, d0⟩ : ∃ v, digV q0.data.toList = v := ⟨_, rfl⟩
    obtain ⟨v1, d1⟩ : ∃ v, digV q1.data.toList = v := ⟨_, rfl⟩
    obtain ⟨v2, d2⟩ : ∃ v, digV q2.data.toList = v := ⟨_, rfl⟩
    obtain ⟨v3, d3⟩ : ∃ v, digV q3.data.toList = v := ⟨_, rfl⟩
    have b0 := digV_bd (l := q0.data.toList) (k := 2) (by rw [ba_len]; exact z0)
    have b1 := digV_bd (l := q1.data.toList) (k := 2) (by rw [ba_len]; exact z1)
    have b2 := digV_bd (l := q2.data.toList) (k := 2) (by rw [ba_len]; exact z2)
    have b3 := digV_bd (l := q3.data.toList) (k := 3) (by rw [ba_len]; exact z3)
    rw [d0] at b0
    rw [d1] at b1
    rw [d2] at b2
    rw [d3] at b3
    have HPS : Hid (∀ n : Int, 0 ≤ n → n ≤ 36000000 → timeT n = s → ((v0 * 60 + v1) * 60 + v2) * 1000 + v3 = n ∧ 0 ≤ v0 ∧ 0 ≤ v1 ∧ 0 ≤ v2 ∧ 0 ≤ v3) := by
      intro n h0 h1 h
      have q := (pS_time h0 h1 h).2
      rw [hz] at q
      simp only [show (12 : Nat) - 11 = 1 from rfl, show (12 : Nat) - 10 = 2 from rfl, ht, e0, e1, e2, e3, d0, d1, d2, d3] at q
      exact q
    have D0 := Lib.hid d0
    have D1 := Lib.hid d1
    have D2 := Lib.hid d2
    have D3 := Lib.hid d3
    clear d0 d1 d2 d3
    by_cases hneg : v0 < 0 ∨ v1 < 0 ∨ v2 < 0 ∨ v3 < 0
    case pos =>
      have HE : Hid ((0, false) = (n0, ok)) := (rdT_no (fun n h0 h1 h => by have := HPS.out n h0 h1 h; omega)).symm.trans HR.out
      have hdec : (decide (v0 < 0) || decide (v1 < 0) || decide (v2 < 0) || decide (v3 < 0)) = true := by simp; omega
      obtain ⟨x0, hx0⟩ : ∃ x, decide (v0 < 0) = x := ⟨_, rfl⟩
      obtain ⟨x1, hx1⟩ : ∃ x, decide (v1 < 0) = x := ⟨_, rfl⟩
      obtain ⟨x2, hx2⟩ : ∃ x, decide (v2 < 0) = x := ⟨_, rfl⟩
      obtain ⟨x3, hx3⟩ : ∃ x, decide (v3 < 0) = x := ⟨_, rfl⟩
      rw [hx0, hx1, hx2, hx3] at hdec
      have HD := Lib.hid hdec
      clear hdec hneg
      go_enter Tryd.func9, Tryd.ntmps9
      go_wp2_with fail
      refine (l23Digits_any q0 v0 D0.out (by omega) _).mono ?_
      rintro e w_ ⟨rfl, rfl⟩
      go_wp2_with fail
      refine (l23Digits_any q1 v1 D1.out (by omega) _).mono ?_
      rintro e w_ ⟨rfl, rfl⟩
      go_wp2_with fail
      refine (l23Digits_any q2 v2 D2.out (by omega) _).mono ?_
      rintro e w_ ⟨rfl, rfl⟩
      go_wp2_with fail
      refine (l23Digits_any q3 v3 D3.out (by omega) _).mono ?_
      rintro e w_ ⟨rfl, rfl⟩
      clear b0 b1 b2 b3
      cases x0 <;> cases x1 <;> cases x2 <;> cases x3
      all_goals first
        | exact absurd HD.out (by decide)
        | (go_wp2_with fail
           go_ret2
           exact ⟨tup_t HE.out, by (repeat' (first | (with_reducible exact Below.refl _ _) | (with_reducible assumption) | (with_reducible refine Below.alloc ?_ ?_ _) | (with_reducible refine Below.drew ?_) | (with_reducible refine belowDrewN ?_ _) | (with_reducible refine Below.setCell ?_ ?_ _) | (with_reducible refine Below.via (by with_reducible assumption) ?_ ?_) | (with_reducible refine Below.viaD (by with_reducible assumption) ?_ ?_) | (with_reducible exact Below.size (by with_reducible assumption)) | go_size | (with_reducible refine Nat.le_trans ?_ (Below.size (by with_reducible assumption))) | (with_reducible refine Nat.le_trans ?_ (sizeAlloc _ _)) | (with_reducible refine Nat.le_trans ?_ (sizeSet _ _ _)) | (with_reducible refine Nat.le_trans ?_ (sizeDrew _))))⟩)
    case neg =>
      have g0 : 0 ≤ v0 := by omega
      have g1 : 0 ≤ v1 := by omega
      have g2 : 0 ≤ v2 := by omega
      have g3 : 0 ≤ v3 := by omega
      have x0 : decide (v0 < 0) = false := decide_eq_false (by omega)
      have x1 : decide (v1 < 0) = false := decide_eq_false (by omega)
      have x2 : decide (v2 < 0) = false := decide_eq_false (by omega)
      have x3 : decide (v3 < 0) = false := decide_eq_false (by omega)
      clear hneg
      obtain ⟨n, hn⟩ : ∃ n, ((v0 * 60 + v1) * 60 + v2) * 1000 + v3 = n := ⟨_, rfl⟩
      have hn0 : 0 ≤ n := by omega
      have HQ : Hid (∀ m : Int, 0 ≤ m → m ≤ 36000000 → timeT m = s → m = n) := fun m h0 h1 h => by rw [← hn]; exact ((HPS.out m h0 h1 h).1).symm
      obtain ⟨tb, htb⟩ : ∃ q, tB n = q := ⟨_, rfl⟩
      have HTB := Lib.hid htb
      by_cases hok : tb = true ∧ timeT n = s
      case pos =>
        obtain ⟨rfl, heq⟩ := hok
        have hb := tB_bd htb
        have HE : Hid ((n, true) = (n0, ok)) := (rdT_yes hb.1 hb.2 heq).symm.trans HR.out
        have HEQ := Lib.hid heq
        clear heq htb
        obtain ⟨hb1, hb2⟩ := hb
        go_enter Tryd.func9, Tryd.ntmps9
        go_wp2_with fail
        refine (l23Digits_any q0 v0 D0.out (by omega) _).mono ?_
        rintro e w_ ⟨rfl, rfl⟩
        go_wp2_with fail
        refine (l23Digits_any q1 v1 D1.out (by omega) _).mono ?_
        rintro e w_ ⟨rfl, rfl⟩
        go_wp2_with fail
        refine (l23Digits_any q2 v2 D2.out (by omega) _).mono ?_
        rintro e w_ ⟨rfl, rfl⟩
        go_wp2_with fail
        refine (l23Digits_any q3 v3 D3.out (by omega) _).mono ?_
        rintro e w_ ⟨rfl, rfl⟩
        go_wp2_with (first | (go_at_call 30; (with_reducible refine Calls.mono (l23Time_any n _) ?_); rw [HTB.out]; rintro e w_ ⟨rfl, rfl⟩) | (go_at_call 26; (with_reducible refine Calls.mono (l23Text_any n hb1 hb2 _) ?_); rw [HEQ.out]; rintro e w5 ⟨rfl, hb5⟩))
        go_ret2
        exact ⟨tup_t HE.out, by (repeat' (first | (with_reducible exact Below.refl _ _) | (with_reducible assumption) | (with_reducible refine Below.alloc ?_ ?_ _) | (with_reducible refine Below.drew ?_) | (with_reducible refine belowDrewN ?_ _) | (with_reducible refine Below.setCell ?_ ?_ _) | (with_reducible refine Below.via (by with_reducible assumption) ?_ ?_) | (with_reducible refine Below.viaD (by with_reducible assumption) ?_ ?_) | (with_reducible exact Below.size (by with_reducible assumption)) | go_size | (with_reducible refine Nat.le_trans ?_ (Below.size (by with_reducible assumption))) | (with_reducible refine Nat.le_trans ?_ (sizeAlloc _ _)) | (with_reducible refine Nat.le_trans ?_ (sizeSet _ _ _)) | (with_reducible refine Nat.le_trans ?_ (sizeDrew _))))⟩
      case neg =>
        have HE : Hid ((0, false) = (n0, ok)) := (rdT_no (fun m h0 h1 h => by
          have e := HQ.out m h0 h1 h
          subst e
          exact hok ⟨by rw [← htb, tB, inB_t h0 h1], h⟩)).symm.trans HR.out
        cases tb
        case false =>
          clear htb hok
          go_enter Tryd.func9, Tryd.ntmps9
          go_wp2_with fail
          refine (l23Digits_any q0 v0 D0.out (by omega) _).mono ?_
          rintro e w_ ⟨rfl, rfl⟩
          go_wp2_with fail
          refine (l23Digits_any q1 v1 D1.out (by omega) _).mono ?_
          rintro e w_ ⟨rfl, rfl⟩
          go_wp2_with fail
          refine (l23Digits_any q2 v2 D2.out (by omega) _).mono ?_
          rintro e w_ ⟨rfl, rfl⟩
          go_wp2_with fail
          refine (l23Digits_any q3 v3 D3.out (by omega) _).mono ?_
          rintro e w_ ⟨rfl, rfl⟩
          go_wp2_with (go_at_call 30; (with_reducible refine Calls.mono (l23Time_any n _) ?_); rw [HTB.out]; rintro e w_ ⟨rfl, rfl⟩)
          go_ret2
          exact ⟨tup_t HE.out, by (repeat' (first | (with_reducible exact Below.refl _ _) | (with_reducible assumption) | (with_reducible refine Below.alloc ?_ ?_ _) | (with_reducible refine Below.drew ?_) | (with_reducible refine belowDrewN ?_ _) | (with_reducible refine Below.setCell ?_ ?_ _) | (with_reducible refine Below.via (by with_reducible assumption) ?_ ?_) | (with_reducible refine Below.viaD (by with_reducible assumption) ?_ ?_) | (with_reducible exact Below.size (by with_reducible assumption)) | go_size | (with_reducible refine Nat.le_trans ?_ (Below.size (by with_reducible assumption))) | (with_reducible refine Nat.le_trans ?_ (sizeAlloc _ _)) | (with_reducible refine Nat.le_trans ?_ (sizeSet _ _ _)) | (with_reducible refine Nat.le_trans ?_ (sizeDrew _))))⟩
        case true =>
          have hb := tB_bd htb
          obtain ⟨hb1, hb2⟩ := hb
          have hne : timeT n ≠ s := fun h => hok ⟨rfl, h⟩
          obtain ⟨tt, htt⟩ : ∃ t, timeT n = t := ⟨_, rfl⟩
          rw [htt] at hne
          have HTT := Lib.hid htt
          have hcmp : (tt.toList == s.toList) = false := by rw [beq_eq_false_iff_ne]; intro h; exact hne (toList_inj h)
          clear htb hok hne htt
          go_enter Tryd.func9, Tryd.ntmps9
          go_wp2_with fail
          refine (l23Digits_any q0 v0 D0.out (by omega) _).mono ?_
          rintro e w_ ⟨rfl, rfl⟩
          go_wp2_with fail
          refine (l23Digits_any q1 v1 D1.out (by omega) _).mono ?_
          rintro e w_ ⟨rfl, rfl⟩
          go_wp2_with fail
          refine (l23Digits_any q2 v2 D2.out (by omega) _).mono ?_
          rintro e w_ ⟨rfl, rfl⟩
          go_wp2_with fail
          refine (l23Digits_any q3 v3 D3.out (by omega) _).mono ?_
          rintro e w_ ⟨rfl, rfl⟩
          go_wp2_with (first | (go_at_call 30; (with_reducible refine Calls.mono (l23Time_any n _) ?_); rw [HTB.out]; rintro e w_ ⟨rfl, rfl⟩) | (go_at_call 26; (with_reducible refine Calls.mono (l23Text_any n hb1 hb2 _) ?_); rw [HTT.out]; rintro e w5 ⟨rfl, hb5⟩))
          go_ret2
          exact ⟨tup_t HE.out, by (repeat' (first | (with_reducible exact Below.refl _ _) | (with_reducible assumption) | (with_reducible refine Below.alloc ?_ ?_ _) | (with_reducible refine Below.drew ?_) | (with_reducible refine belowDrewN ?_ _) | (with_reducible refine Below.setCell ?_ ?_ _) | (with_reducible refine Below.via (by with_reducible assumption) ?_ ?_) | (with_reducible refine Below.viaD (by with_reducible assumption) ?_ ?_) | (with_reducible exact Below.size (by with_reducible assumption)) | go_size | (with_reducible refine Nat.le_trans ?_ (Below.size (by with_reducible assumption))) | (with_reducible refine Nat.le_trans ?_ (sizeAlloc _ _)) | (with_reducible refine Nat.le_trans ?_ (sizeSet _ _ _)) | (with_reducible refine Nat.le_trans ?_ (sizeDrew _))))⟩
end Go.Proofs.YtbepfonpfnllkaaDoor
