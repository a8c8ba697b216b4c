/- TimeText: both functions, and the law. Conditions: the table of powers as it is laid. -/
import Derived.Test.YtbepfonpfnllkaaDoorG05
import Derived.Test.YtbepfonpfnllkaaDoorG08
namespace Go.Proofs.YtbepfonpfnllkaaDoor
set_option linter.unusedSimpArgs false
set_option linter.unusedVariables false
open Go.RowKit Go.WideShapes Go.ChangeShapes Go.Deep

def strLen : Value → Nat | .string b => b.size | _ => 0
/-- A numeral with zeros ahead. -/
def padL (k : Nat) (l : List UInt8) : List UInt8 := List.replicate (k - l.length) 48 ++ l
theorem padL_more {k : Nat} {l : List UInt8} (h : l.length < k) : padL k (48 :: l) = padL k l := by
  rw [padL, padL, List.length_cons, show k - l.length = (k - (l.length + 1)) + 1 by omega, List.replicate_succ', List.append_assoc]
  rfl
theorem padL_done {k : Nat} {l : List UInt8} (h : k ≤ l.length) : padL k l = l := by
  rw [padL, show k - l.length = 0 by omega]; rfl
def padS (n : Int) (k : Nat) : ByteArray := ⟨(padL k (Lib.itoa n)).toArray⟩
theorem padL_len (k : Nat) (l : List UInt8) : (padL k l).length ≤ k + l.length := by
  rw [padL, List.length_append, List.length_replicate]; omega
theorem padS_size {n : Int} {k : Nat} (h0 : -9223372036854775808 ≤ n) (h1 : n ≤ 9223372036854775807) (hk : k ≤ 3) : (padS n k).size ≤ 24 := by
  have := Lib.itoa_length_le n h0 h1
  have h2 := padL_len k (Lib.itoa n)
  show (padL k (Lib.itoa n)).toArray.size ≤ 24
  simp
  omega
def timeT (n : Int) : ByteArray := ((((((decS (n / 3600000) ++ ⟨#[58]⟩) ++ padS (n / 60000 % 60) 2) ++ ⟨#[58]⟩) ++ padS (n / 1000 % 60) 2) ++ ⟨#[46]⟩) ++ padS (n % 1000) 3)
def timeX (n : Int) : ByteArray := if tB n then timeT n else ⟨#[]⟩
set_option maxHeartbeats 1000000 in
theorem padded_any (n : Int) (k : Nat) (h0 : -9223372036854775808 ≤ n) (h1 : n ≤ 9223372036854775807) (hk : k ≤ 3) (s : ByteArray) (hs : padS n k = s) (w : World) (ht : TabW w) :
    Calls Tryd.prog 24 #[.int .i64 n, .int .i64 (k : Nat)] w fun e w' => e = .returned (.string s) ∧ Below w.heap.size w w' := by
  have HS := Lib.hid hs
  clear hs
  have hlen := Lib.itoa_length_le n h0 h1
  have HC := Lib.hid (Decimal_any n h0 h1 w ht)
  go_enter Tryd.func24, Tryd.ntmps24
  go_wp2_with (go_at_call 23; (with_reducible refine Calls.mono HC.out ?_); rintro e w1 ⟨rfl, hb1⟩)
  go_loopw [5] (fun v wr => ∃ l : List UInt8, v = .string ⟨l.toArray⟩ ∧ Hid (padL k l = padL k (Lib.itoa n)) ∧ l.length ≤ 24 ∧ Below w.heap.size w wr) (fun v _ => 3 - strLen v)
  case atStart => exact ⟨Lib.itoa n, rfl, rfl, by omega, by (repeat' (first | (with_reducible exact Below.refl _ _) | (with_reducible assumption) | (with_reducible refine Below.alloc ?_ ?_ _) | (with_reducible refine Below.drew ?_) | (with_reducible refine belowDrewN ?_ _) | (with_reducible refine Below.setCell ?_ ?_ _) | (with_reducible refine Below.via (by with_reducible assumption) ?_ ?_) | (with_reducible refine Below.viaD (by with_reducible assumption) ?_ ?_) | (with_reducible exact Below.size (by with_reducible assumption)) | go_size | (with_reducible refine Nat.le_trans ?_ (Below.size (by with_reducible assumption))) | (with_reducible refine Nat.le_trans ?_ (sizeAlloc _ _)) | (with_reducible refine Nat.le_trans ?_ (sizeSet _ _ _)) | (with_reducible refine Nat.le_trans ?_ (sizeDrew _))))⟩
  case round =>
    obtain ⟨l, rfl, hp, hl, hbl⟩ := hrel
    have HB := Lib.hid hbl
    clear h0 h1 hlen hbl
    have hsz : (⟨l.toArray⟩ : ByteArray).size = l.length := by show l.toArray.size = _; simp
    by_cases hlt : l.length < k
    · have hadd : ∀ w, (Op.stringOp .add ⟨#[48]⟩ ⟨l.toArray⟩).run Tryd.prog w = .ok (.string ⟨(48 :: l).toArray⟩) w := add_all ⟨#[48]⟩ ⟨l.toArray⟩ ⟨(48 :: l).toArray⟩ (add_bytes [48] l) (by rw [hsz]; show 1 + _ ≤ _; omega)
      have hsz2 : Hid ((⟨(48 :: l).toArray⟩ : ByteArray).size = l.length + 1) := by show (48 :: l).toArray.size = _; simp
      go_wp2_with fail
      go_roundw
      case rel => exact ⟨48 :: l, rfl, by unfold Hid; rw [padL_more hlt]; exact hp.out, by simp; omega, HB.out⟩
      case measure => show 3 - (⟨(48 :: l).toArray⟩ : ByteArray).size < 3 - (⟨l.toArray⟩ : ByteArray).size; rw [hsz2.out, hsz]; omega
    · go_wp2_with fail
      go_ret
      have h9 := hp.out
      rw [padL_done (by omega)] at h9
      exact ⟨by rw [← HS.out, padS, ← h9]; first | done | rfl, HB.out⟩
set_option maxHeartbeats 1000000 in
theorem l23Two_any (n : Int) (k : Nat) (h0 : -9223372036854775808 ≤ n) (h1 : n ≤ 9223372036854775807) (hk : k ≤ 3) (s : ByteArray) (hs : padS n k = s) (w : World) :
    Calls Tryd.prog 41 #[.int .i64 n, .int .i64 (k : Nat)] w fun e w' => e = .returned (.string s) ∧ Below w.heap.size w w' := by
  have HS := Lib.hid hs
  clear hs
  have hlen := Lib.itoa_length_le n h0 h1
  have HC := Lib.hid (l01Dec_any n h0 h1 w)
  go_enter Tryd.func41, Tryd.ntmps41
  go_wp2_with (go_at_call 40; (with_reducible refine Calls.mono HC.out ?_); rintro e w1 ⟨rfl, hb1⟩)
  go_loopw [5] (fun v wr => ∃ l : List UInt8, v = .string ⟨l.toArray⟩ ∧ Hid (padL k l = padL k (Lib.itoa n)) ∧ l.length ≤ 24 ∧ Below w.heap.size w wr) (fun v _ => 3 - strLen v)
  case atStart => exact ⟨Lib.itoa n, rfl, rfl, by omega, by (repeat' (first | (with_reducible exact Below.refl _ _) | (with_reducible assumption) | (with_reducible refine Below.alloc ?_ ?_ _) | (with_reducible refine Below.drew ?_) | (with_reducible refine belowDrewN ?_ _) | (with_reducible refine Below.setCell ?_ ?_ _) | (with_reducible refine Below.via (by with_reducible assumption) ?_ ?_) | (with_reducible refine Below.viaD (by with_reducible assumption) ?_ ?_) | (with_reducible exact Below.size (by with_reducible assumption)) | go_size | (with_reducible refine Nat.le_trans ?_ (Below.size (by with_reducible assumption))) | (with_reducible refine Nat.le_trans ?_ (sizeAlloc _ _)) | (with_reducible refine Nat.le_trans ?_ (sizeSet _ _ _)) | (with_reducible refine Nat.le_trans ?_ (sizeDrew _))))⟩
  case round =>
    obtain ⟨l, rfl, hp, hl, hbl⟩ := hrel
    have HB := Lib.hid hbl
    clear h0 h1 hlen hbl
    have hsz : (⟨l.toArray⟩ : ByteArray).size = l.length := by show l.toArray.size = _; simp
    by_cases hlt : l.length < k
    · have hadd : ∀ w, (Op.stringOp .add ⟨#[48]⟩ ⟨l.toArray⟩).run Tryd.prog w = .ok (.string ⟨(48 :: l).toArray⟩) w := add_all ⟨#[48]⟩ ⟨l.toArray⟩ ⟨(48 :: l).toArray⟩ (add_bytes [48] l) (by rw [hsz]; show 1 + _ ≤ _; omega)
      have hsz2 : Hid ((⟨(48 :: l).toArray⟩ : ByteArray).size = l.length + 1) := by show (48 :: l).toArray.size = _; simp
      go_wp2_with fail
      go_roundw
      case rel => exact ⟨48 :: l, rfl, by unfold Hid; rw [padL_more hlt]; exact hp.out, by simp; omega, HB.out⟩
      case measure => show 3 - (⟨(48 :: l).toArray⟩ : ByteArray).size < 3 - (⟨l.toArray⟩ : ByteArray).size; rw [hsz2.out, hsz]; omega
    · go_wp2_with fail
      go_ret
      have h9 := hp.out
      rw [padL_done (by omega)] at h9
      exact ⟨by rw [← HS.out, padS, ← h9]; first | done | rfl, HB.out⟩
set_option maxHeartbeats 2000000 in
theorem TimeText_ok (n : Int) (h0 : 0 ≤ n) (h1 : n ≤ 36000000) (w : World) (ht : TabW w) (hv : tB n = true) :
    Calls Tryd.prog 6 #[.int .i64 n] w fun e w' => e = .returned (.string (timeT n)) ∧ Below w.heap.size w w' := by
  obtain ⟨s0, e0⟩ : ∃ s, decS (n / 3600000) = s := ⟨_, rfl⟩
  obtain ⟨s1, e1⟩ : ∃ s, s0 ++ (⟨#[58]⟩ : ByteArray) = s := ⟨_, rfl⟩
  obtain ⟨s2, e2⟩ : ∃ s, padS (n / 60000 % 60) 2 = s := ⟨_, rfl⟩
  obtain ⟨s3, e3⟩ : ∃ s, s1 ++ s2 = s := ⟨_, rfl⟩
  obtain ⟨s4, e4⟩ : ∃ s, s3 ++ (⟨#[58]⟩ : ByteArray) = s := ⟨_, rfl⟩
  obtain ⟨s5, e5⟩ : ∃ s, padS (n / 1000 % 60) 2 = s := ⟨_, rfl⟩
  obtain ⟨s6, e6⟩ : ∃ s, s4 ++ s5 = s := ⟨_, rfl⟩
  obtain ⟨s7, e7⟩ : ∃ s, s6 ++ (⟨#[46]⟩ : ByteArray) = s := ⟨_, rfl⟩
  obtain ⟨s8, e8⟩ : ∃ s, padS (n % 1000) 3 = s := ⟨_, rfl⟩
  obtain ⟨s9, e9⟩ : ∃ s, s7 ++ s8 = s := ⟨_, rfl⟩
  have z0 : s0.size ≤ 21 := by rw [← e0]; exact decS_size (by omega) (by omega)
  have z2 : s2.size ≤ 24 := by rw [← e2]; exact padS_size (by omega) (by omega) (by omega)
  have z5 : s5.size ≤ 24 := by rw [← e5]; exact padS_size (by omega) (by omega) (by omega)
  have z8 : s8.size ≤ 24 := by rw [← e8]; exact padS_size (by omega) (by omega) (by omega)
  have z1 : s1.size ≤ 22 := by rw [← e1, ByteArray.size_append]; show _ + 1 ≤ 22; omega
  have z3 : s3.size ≤ 46 := by rw [← e3, ByteArray.size_append]; omega
  have z4 : s4.size ≤ 47 := by rw [← e4, ByteArray.size_append]; show _ + 1 ≤ 47; omega
  have z6 : s6.size ≤ 71 := by rw [← e6, ByteArray.size_append]; omega
  have z7 : s7.size ≤ 72 := by rw [← e7, ByteArray.size_append]; show _ + 1 ≤ 72; omega
  have hadd1 := add_all s0 ⟨#[58]⟩ s1 e1 (by show _ + 1 ≤ _; omega)
  have hadd2 := add_all s1 s2 s3 e3 (by omega)
  have hadd3 := add_all s3 ⟨#[58]⟩ s4 e4 (by show _ + 1 ≤ _; omega)
  have hadd4 := add_all s4 s5 s6 e6 (by omega)
  have hadd5 := add_all s6 ⟨#[46]⟩ s7 e7 (by show _ + 1 ≤ _; omega)
  have hadd6 := add_all s7 s8 s9 e9 (by omega)
  have HS : Hid (timeT n = s9) := by unfold Hid timeT; rw [e0, e1, e2, e3, e4, e5, e6, e7, e8, e9]
  have HD1 : Hid (∀ W, Below w.heap.size w W → Calls Tryd.prog 23 #[.int .i64 (n / 3600000)] W fun e w' => e = .returned (.string s0) ∧ Below W.heap.size W w') := by
    intro W hbW
    rw [← e0]
    exact Decimal_any (n / 3600000) (by omega) (by omega) W (ht.later hbW)
  have HP1 : Hid (∀ W, Below w.heap.size w W → Calls Tryd.prog 24 #[.int .i64 (n / 60000 % 60), .int .i64 2] W fun e w' => e = .returned (.string s2) ∧ Below W.heap.size W w') := by
    intro W hb
    exact padded_any (n / 60000 % 60) 2 (by omega) (by omega) (by omega) s2 e2 W (ht.later hb)
  have HP2 : Hid (∀ W, Below w.heap.size w W → Calls Tryd.prog 24 #[.int .i64 (n / 1000 % 60), .int .i64 2] W fun e w' => e = .returned (.string s5) ∧ Below W.heap.size W w') := by
    intro W hb
    exact padded_any (n / 1000 % 60) 2 (by omega) (by omega) (by omega) s5 e5 W (ht.later hb)
  have HP3 : Hid (∀ W, Below w.heap.size w W → Calls Tryd.prog 24 #[.int .i64 (n % 1000), .int .i64 3] W fun e w' => e = .returned (.string s8) ∧ Below W.heap.size W w') := by
    intro W hb
    exact padded_any (n % 1000) 3 (by omega) (by omega) (by omega) s8 e8 W (ht.later hb)
  clear z0 z1 z2 z3 z4 z5 z6 z7 z8 e0 e1 e2 e3 e4 e5 e6 e7 e8 e9
  have HV := Lib.hid hv
  clear hv
  go_enter Tryd.func6, Tryd.ntmps6
  go_wp2_with (go_at_call 22; (with_reducible refine Calls.mono (isTime_any n _) ?_); rw [HV.out]; rintro e w_ ⟨rfl, rfl⟩)
  refine (HD1.out _ (Below.refl _ _)).mono ?_
  rintro e w1 ⟨rfl, hb1⟩
  have B1 := Lib.hid hb1
  clear hb1
  go_wp2_with fail
  refine (HP1.out _ B1.out).mono ?_
  rintro e w2 ⟨rfl, hb1⟩
  have B2 := Lib.hid (Below.via hb1 B1.out B1.out.size)
  clear hb1
  go_wp2_with fail
  refine (HP2.out _ B2.out).mono ?_
  rintro e w3 ⟨rfl, hb1⟩
  have B3 := Lib.hid (Below.via hb1 B2.out B2.out.size)
  clear hb1
  go_wp2_with fail
  refine (HP3.out _ B3.out).mono ?_
  rintro e w4 ⟨rfl, hb1⟩
  have B4 := Lib.hid (Below.via hb1 B3.out B3.out.size)
  clear hb1
  go_wp2_with fail
  go_ret
  exact ⟨by rw [HS.out]; first | done | rfl, B4.out⟩
set_option maxHeartbeats 2000000 in
theorem l23Text_any (n : Int) (h0 : 0 ≤ n) (h1 : n ≤ 36000000) (w : World) :
    Calls Tryd.prog 26 #[.int .i64 n] w fun e w' => e = .returned (.string (timeT n)) ∧ Below w.heap.size w w' := by
  obtain ⟨s0, e0⟩ : ∃ s, decS (n / 3600000) = s := ⟨_, rfl⟩
  obtain ⟨s1, e1⟩ : ∃ s, s0 ++ (⟨#[58]⟩ : ByteArray) = s := ⟨_, rfl⟩
  obtain ⟨s2, e2⟩ : ∃ s, padS (n / 60000 % 60) 2 = s := ⟨_, rfl⟩
  obtain ⟨s3, e3⟩ : ∃ s, s1 ++ s2 = s := ⟨_, rfl⟩
  obtain ⟨s4, e4⟩ : ∃ s, s3 ++ (⟨#[58]⟩ : ByteArray) = s := ⟨_, rfl⟩
  obtain ⟨s5, e5⟩ : ∃ s, padS (n / 1000 % 60) 2 = s := ⟨_, rfl⟩
  obtain ⟨s6, e6⟩ : ∃ s, s4 ++ s5 = s := ⟨_, rfl⟩
  obtain ⟨s7, e7⟩ : ∃ s, s6 ++ (⟨#[46]⟩ : ByteArray) = s := ⟨_, rfl⟩
  obtain ⟨s8, e8⟩ : ∃ s, padS (n % 1000) 3 = s := ⟨_, rfl⟩
  obtain ⟨s9, e9⟩ : ∃ s, s7 ++ s8 = s := ⟨_, rfl⟩
  have z0 : s0.size ≤ 21 := by rw [← e0]; exact decS_size (by omega) (by omega)
  have z2 : s2.size ≤ 24 := by rw [← e2]; exact padS_size (by omega) (by omega) (by omega)
  have z5 : s5.size ≤ 24 := by rw [← e5]; exact padS_size (by omega) (by omega) (by omega)
  have z8 : s8.size ≤ 24 := by rw [← e8]; exact padS_size (by omega) (by omega) (by omega)
  have z1 : s1.size ≤ 22 := by rw [← e1, ByteArray.size_append]; show _ + 1 ≤ 22; omega
  have z3 : s3.size ≤ 46 := by rw [← e3, ByteArray.size_append]; omega
  have z4 : s4.size ≤ 47 := by rw [← e4, ByteArray.size_append]; show _ + 1 ≤ 47; omega
  have z6 : s6.size ≤ 71 := by rw [← e6, ByteArray.size_append]; omega
  have z7 : s7.size ≤ 72 := by rw [← e7, ByteArray.size_append]; show _ + 1 ≤ 72; omega
  have hadd1 := add_all s0 ⟨#[58]⟩ s1 e1 (by show _ + 1 ≤ _; omega)
  have hadd2 := add_all s1 s2 s3 e3 (by omega)
  have hadd3 := add_all s3 ⟨#[58]⟩ s4 e4 (by show _ + 1 ≤ _; omega)
  have hadd4 := add_all s4 s5 s6 e6 (by omega)
  have hadd5 := add_all s6 ⟨#[46]⟩ s7 e7 (by show _ + 1 ≤ _; omega)
  have hadd6 := add_all s7 s8 s9 e9 (by omega)
  have HS : Hid (timeT n = s9) := by unfold Hid timeT; rw [e0, e1, e2, e3, e4, e5, e6, e7, e8, e9]
  have HD1 : Hid (∀ W, Below w.heap.size w W → Calls Tryd.prog 40 #[.int .i64 (n / 3600000)] W fun e w' => e = .returned (.string s0) ∧ Below W.heap.size W w') := by
    intro W hbW
    rw [← e0]
    exact l01Dec_any (n / 3600000) (by omega) (by omega) W
  have HP1 : Hid (∀ W, Below w.heap.size w W → Calls Tryd.prog 41 #[.int .i64 (n / 60000 % 60), .int .i64 2] W fun e w' => e = .returned (.string s2) ∧ Below W.heap.size W w') := by
    intro W hb
    exact l23Two_any (n / 60000 % 60) 2 (by omega) (by omega) (by omega) s2 e2 W
  have HP2 : Hid (∀ W, Below w.heap.size w W → Calls Tryd.prog 41 #[.int .i64 (n / 1000 % 60), .int .i64 2] W fun e w' => e = .returned (.string s5) ∧ Below W.heap.size W w') := by
    intro W hb
    exact l23Two_any (n / 1000 % 60) 2 (by omega) (by omega) (by omega) s5 e5 W
  have HP3 : Hid (∀ W, Below w.heap.size w W → Calls Tryd.prog 41 #[.int .i64 (n % 1000), .int .i64 3] W fun e w' => e = .returned (.string s8) ∧ Below W.heap.size W w') := by
    intro W hb
    exact l23Two_any (n % 1000) 3 (by omega) (by omega) (by omega) s8 e8 W
  clear z0 z1 z2 z3 z4 z5 z6 z7 z8 e0 e1 e2 e3 e4 e5 e6 e7 e8 e9
  go_enter Tryd.func26, Tryd.ntmps26
  go_wp2_with fail
  refine (HD1.out _ (Below.refl _ _)).mono ?_
  rintro e w1 ⟨rfl, hb1⟩
  have B1 := Lib.hid hb1
  clear hb1
  go_wp2_with fail
  refine (HP1.out _ B1.out).mono ?_
  rintro e w2 ⟨rfl, hb1⟩
  have B2 := Lib.hid (Below.via hb1 B1.out B1.out.size)
  clear hb1
  go_wp2_with fail
  refine (HP2.out _ B2.out).mono ?_
  rintro e w3 ⟨rfl, hb1⟩
  have B3 := Lib.hid (Below.via hb1 B2.out B2.out.size)
  clear hb1
  go_wp2_with fail
  refine (HP3.out _ B3.out).mono ?_
  rintro e w4 ⟨rfl, hb1⟩
  have B4 := Lib.hid (Below.via hb1 B3.out B3.out.size)
  clear hb1
  go_wp2_with fail
  go_ret
  exact ⟨by rw [HS.out]; first | done | rfl, B4.out⟩
theorem tB_bd {n : Int} (h : tB n = true) : 0 ≤ n ∧ n ≤ 36000000 := by
  unfold tB at h
  have := inB_of h
  omega
theorem TimeText_any (n : Int) (s : ByteArray) (hs : timeX n = s) (w : World) (ht : TabW w) : Calls Tryd.prog 6 #[.int .i64 n] w fun e w' => e = .returned (.string s) ∧ Below w.heap.size w w' := by
  cases hv : tB n
  case true =>
    obtain ⟨h0, h1⟩ := tB_bd hv
    rw [← hs, timeX, hv]
    exact TimeText_ok n h0 h1 w ht hv
  case false =>
    have HE : Hid (⟨#[]⟩ = s) := by unfold Hid; rw [← hs, timeX, hv]; rfl
    clear hs
    have HV := Lib.hid hv
    clear hv
    go_enter Tryd.func6, Tryd.ntmps6
    go_wp2_with (go_at_call 22; (with_reducible refine Calls.mono (isTime_any n _) ?_); rw [HV.out]; rintro e w_ ⟨rfl, rfl⟩)
    go_ret
    exact ⟨by rw [← HE.out]; rfl, by (repeat' (first | (with_reducible exact Below.refl _ _) | (with_reducible assumption) | (with_reducible refine Below.alloc ?_ ?_ _) | (with_reducible refine Below.drew ?_) | (with_reducible refine belowDrewN ?_ _) | (with_reducible refine Below.setCell ?_ ?_ _) | (with_reducible refine Below.via (by with_reducible assumption) ?_ ?_) | (with_reducible refine Below.viaD (by with_reducible assumption) ?_ ?_) | (with_reducible exact Below.size (by with_reducible assumption)) | go_size | (with_reducible refine Nat.le_trans ?_ (Below.size (by with_reducible assumption))) | (with_reducible refine Nat.le_trans ?_ (sizeAlloc _ _)) | (with_reducible refine Nat.le_trans ?_ (sizeSet _ _ _)) | (with_reducible refine Nat.le_trans ?_ (sizeDrew _))))⟩
theorem sTimeText_any (n : Int) (s : ByteArray) (hs : timeX n = s) (w : World) : Calls Tryd.prog 14 #[.int .i64 n] w fun e w' => e = .returned (.string s) ∧ Below w.heap.size w w' := by
  have HS := Lib.hid hs
  clear hs
  cases hv : tB n
  case true =>
    obtain ⟨h0, h1⟩ := tB_bd hv
    have HV := Lib.hid hv
    clear hv
    go_enter Tryd.func14, Tryd.ntmps14
    go_wp2_with (go_at_call 30; (with_reducible refine Calls.mono (l23Time_any n _) ?_); rw [HV.out]; rintro e w_ ⟨rfl, rfl⟩)
    refine (l23Text_any n h0 h1 _).mono ?_
    rintro e w1 ⟨rfl, hb1⟩
    go_wp2_with fail
    go_ret
    exact ⟨by rw [← HS.out, timeX, HV.out]; rfl, hb1⟩
  case false =>
    have HV := Lib.hid hv
    clear hv
    go_enter Tryd.func14, Tryd.ntmps14
    go_wp2_with (go_at_call 30; (with_reducible refine Calls.mono (l23Time_any n _) ?_); rw [HV.out]; rintro e w_ ⟨rfl, rfl⟩)
    go_ret
    exact ⟨by rw [← HS.out, timeX, HV.out]; rfl, by (repeat' (first | (with_reducible exact Below.refl _ _) | (with_reducible assumption) | (with_reducible refine Below.alloc ?_ ?_ _) | (with_reducible refine Below.drew ?_) | (with_reducible refine belowDrewN ?_ _) | (with_reducible refine Below.setCell ?_ ?_ _) | (with_reducible refine Below.via (by with_reducible assumption) ?_ ?_) | (with_reducible refine Below.viaD (by with_reducible assumption) ?_ ?_) | (with_reducible exact Below.size (by with_reducible assumption)) | go_size | (with_reducible refine Nat.le_trans ?_ (Below.size (by with_reducible assumption))) | (with_reducible refine Nat.le_trans ?_ (sizeAlloc _ _)) | (with_reducible refine Nat.le_trans ?_ (sizeSet _ _ _)) | (with_reducible refine Nat.le_trans ?_ (sizeDrew _))))⟩
end Go.Proofs.YtbepfonpfnllkaaDoor
