/- Lists of numbers compared by both functions. No conditions beyond lengths. -/
import Derived.Test.YtbepfonpfnllkaaDoorG05
import Derived.Test.YtbepfonpfnllkaaDoorG07
import Derived.Test.YtbepfonpfnllkaaDoorG09
import Derived.Test.YtbepfonpfnllkaaDoorG08
import Derived.Test.YtbepfonpfnllkaaDoorG00
/- FnTimes: the draws of times. Conditions: at most 2^20 bytes. -/
namespace Go.Proofs.YtbepfonpfnllkaaDoor
set_option linter.unusedSimpArgs false
set_option linter.unusedVariables false
open Go.RowKit Go.WideShapes Go.ChangeShapes

def AmQ (b : Nat) (A : Option Addr) (n c M : Nat) (cs zs : List Int) (w : World) (e : Ending) (w' : World) : Prop := ∃ x : Int, e = .returned (.int .i64 x) ∧ x ∈ zs ∧ Src w' b A n c (M + 2) cs ∧ w.grownBy w' (some b)
theorem amongW (b : Nat) (A : Option Addr) (n c M : Nat) (cs zs : List Int) (m : Nat) (w : World) (h : Src w b A n c M cs) (hn : n ≤ 1048576) (hM : M ≤ 999999998) (hm : zs.length = m) (h2 : 2 ≤ m) (h3 : m ≤ 1000) :
    Calls Tryd.prog 20 #[.pointer (some ⟨b, 0, none⟩), .slice (some ⟨w.heap.size, 0, none⟩) m m] (w.alloc (.cells (zs.map (Value.int .i64)).toArray 2)) (AmQ b A n c M cs zs w) := by
  have hl := h.lt
  refine (among_any b A n c M cs w.heap.size m m zs _ (h.later (Below.alloc (Below.refl _ _) (Nat.le_refl _) _)) hn hM (Sl.built (by simp [hm]) (by simp) (by simp [hm])) (by omega) h2 h3).mono ?_
  rintro e w' ⟨x, rfl, hx, s, g⟩
  exact ⟨x, rfl, hx, s, grown_tr (grown_alloc (World.grownBy.refl _ _) _) g⟩
def TxQ (b : Nat) (A : Option Addr) (n c M : Nat) (cs : List Int) (ss : List ByteArray) (w : World) (e : Ending) (w' : World) : Prop := ∃ x : ByteArray, e = .returned (.string x) ∧ x ∈ ss ∧ Src w' b A n c (M + 2) cs ∧ w.grownBy w' (some b)
theorem textW (b : Nat) (A : Option Addr) (n c M : Nat) (cs : List Int) (ss : List ByteArray) (m : Nat) (w : World) (h : Src w b A n c M cs) (hn : n ≤ 1048576) (hM : M ≤ 999999998) (hm : ss.length = m) (h2 : 2 ≤ m) (h3 : m ≤ 1000) :
    Calls Tryd.prog 27 #[.pointer (some ⟨b, 0, none⟩), .slice (some ⟨w.heap.size, 0, none⟩) m m] (w.alloc (.cells (ss.map Value.string).toArray 9)) (TxQ b A n c M cs ss w) := by
  have hl := h.lt
  refine (textD_any b A n c M cs w.heap.size m m ss _ (h.later (Below.alloc (Below.refl _ _) (Nat.le_refl _) _)) hn hM ⟨by simpa using hm, fun _ => ⟨_, 0, rfl, by simp, fun j u hu => by rw [Nat.zero_add, (Blk.new w 9 _).cell, List.getElem?_toArray]; exact hu⟩⟩ (by omega) h2 h3).mono ?_
  rintro e w' ⟨x, rfl, hx, s, g⟩
  exact ⟨x, rfl, hx, s, grown_tr (grown_alloc (World.grownBy.refl _ _) _) g⟩
def TiD (w : World) (e : Ending) (w' : World) : Prop := ∃ x : Int, e = .returned (.int .i64 x) ∧ Below w.heap.size w w'
set_option maxHeartbeats 2000000 in
theorem DrawTimeText_any (A : Option Addr) (n c : Nat) (cs : List Int) (w : World) (hs : Sl w w.heap.size 1 A n (cs.map (Value.int .u8))) (hc : ∀ z ∈ cs, 0 ≤ z ∧ z ≤ 255) (hn : n ≤ 1048576) :
    Calls Tryd.prog 5 #[.slice A n c] w (TiD w) := by
  have HS := Lib.hid hs
  have HC := Lib.hid hc
  clear hs hc
  go_enter Tryd.func5, Tryd.ntmps5
  go_wp2_with fail
  refine (l00From_any A n c cs _ HS.out HC.out).mono ?_
  rintro e w1 ⟨b, rfl, hb, S1, hb1⟩
  have HS1 := Lib.hid S1
  have HB1 := Lib.hid hb1
  have z1 := HB1.out.size
  clear S1 hb1
  go_wp2_with fail
  refine (one_any b A n c 0 cs 4 _ HS1.out hn (by omega) (by omega)).mono ?_
  rintro e w2 ⟨q, rfl, S2, g2⟩
  have HS2 := Lib.hid S2
  have HB2 := Lib.hid (below_src HB1.out g2 (by omega) z1)
  have z2 := HB2.out.size
  clear S2 g2
  cases q
  case true =>
    go_wp2_with fail
    refine (amongW b A n c (0 + 2) cs [-1, 0, 59999, 60000, 3599999, 3600000, 36000000, 36000001] 8 _ HS2.out hn (by omega) rfl (by omega) (by omega)).mono ?_
    rintro e w3 ⟨x, rfl, -, S3, g3⟩
    have HB3 := Lib.hid (below_src HB2.out g3 (by omega) z2)
    clear S3 g3
    go_wp2_with fail
    go_ret
    exact ⟨x, rfl, HB3.out⟩
  case false =>
    go_wp2_with fail
    refine (pick_any b A n c (0 + 2) cs 60000 _ HS2.out hn (by omega) (by omega)).mono ?_
    rintro e w3 ⟨x, rfl, -, -, -, S3, g3⟩
    have HS3 := Lib.hid S3
    have HB3 := Lib.hid (below_src HB2.out g3 (by omega) z2)
    have z3 := HB3.out.size
    clear S3 g3
    go_wp2_with fail
    refine (pick_any b A n c (0 + 4) cs 500 _ HS3.out hn (by omega) (by omega)).mono ?_
    rintro e w4 ⟨y, rfl, -, -, -, S4, g4⟩
    have HB4 := Lib.hid (below_src HB3.out g4 (by omega) z3)
    clear S4 g4
    go_wp2_with fail
    go_ret
    exact ⟨_, rfl, HB4.out⟩
def RtQd (w : World) (e : Ending) (w' : World) : Prop := ∃ x : ByteArray, e = .returned (.string x) ∧ x.size ≤ 1000 ∧ Below w.heap.size w w'
def ttL : List ByteArray := [⟨#[49, 48, 58, 48, 48, 58, 48, 48, 46, 48, 48, 48]⟩, ⟨#[49, 48, 58, 48, 48, 58, 48, 48, 46, 48, 48, 49]⟩, ⟨#[48, 48, 58, 48, 48, 58, 48, 48, 46, 48, 48, 48]⟩, ⟨#[48, 58, 54, 48, 58, 48, 48, 46, 48, 48, 48]⟩, ⟨#[48, 58, 48, 48, 58, 48, 48, 44, 48, 48, 48]⟩, ⟨#[57, 58, 53, 57, 58, 53, 57, 46, 57, 57, 57]⟩, ⟨#[48, 58, 48, 48, 58, 54, 48, 46, 48, 48, 48]⟩]
theorem tt_size {x : ByteArray} (h : x ∈ ttL) : x.size ≤ 1000 := by
  simp only [ttL, List.mem_cons, List.not_mem_nil, or_false] at h
  rcases h with rfl | rfl | rfl | rfl | rfl | rfl | rfl <;> decide
theorem mul_in {x y : Int} (x0 : 0 ≤ x) (x1 : x < 60000) (y0 : 0 ≤ y) (y1 : y < 600) : 0 ≤ x * y ∧ x * y ≤ 36000000 := by
  have h1 : x * y ≤ 60000 * y := Int.mul_le_mul_of_nonneg_right (by omega) y0
  exact ⟨Int.mul_nonneg x0 y0, by omega⟩
theorem timeT_size {n : Int} (h0 : 0 ≤ n) (h1 : n ≤ 36000000) : (timeT n).size ≤ 900 := by
  have e1 := decS_size (n := n / 3600000) (by omega) (by omega)
  have e2 := padS_size (n := n / 60000 % 60) (k := 2) (by omega) (by omega) (by omega)
  have e3 := padS_size (n := n / 1000 % 60) (k := 2) (by omega) (by omega) (by omega)
  have e4 := padS_size (n := n % 1000) (k := 3) (by omega) (by omega) (by omega)
  rw [timeT, ByteArray.size_append, ByteArray.size_append, ByteArray.size_append, ByteArray.size_append, ByteArray.size_append, ByteArray.size_append]
  show (decS (n / 3600000)).size + 1 + (padS (n / 60000 % 60) 2).size + 1 + (padS (n / 1000 % 60) 2).size + 1 + (padS (n % 1000) 3).size ≤ 900
  omega
set_option maxHeartbeats 2000000 in
theorem DrawReadTime_any (A : Option Addr) (n c : Nat) (cs : List Int) (w : World) (hs : Sl w w.heap.size 1 A n (cs.map (Value.int .u8))) (hc : ∀ z ∈ cs, 0 ≤ z ∧ z ≤ 255) (hn : n ≤ 1048576) :
    Calls Tryd.prog 8 #[.slice A n c] w (RtQd w) := by
  have HS := Lib.hid hs
  have HC := Lib.hid hc
  clear hs hc
  go_enter Tryd.func8, Tryd.ntmps8
  go_wp2_with fail
  refine (l00From_any A n c cs _ HS.out HC.out).mono ?_
  rintro e w1 ⟨b, rfl, hb, S1, hb1⟩
  have HS1 := Lib.hid S1
  have HB1 := Lib.hid hb1
  have z1 := HB1.out.size
  clear S1 hb1
  go_wp2_with fail
  refine (pick_any b A n c 0 cs 60000 _ HS1.out hn (by omega) (by omega)).mono ?_
  rintro e w3 ⟨x, rfl, x0, x1, -, S3, g3⟩
  have hx := x1 (by omega)
  have HS3 := Lib.hid S3
  have HB3 := Lib.hid (below_src HB1.out g3 (by omega) z1)
  have z3 := HB3.out.size
  clear S3 g3 x1
  go_wp2_with fail
  refine (pick_any b A n c (0 + 2) cs 600 _ HS3.out hn (by omega) (by omega)).mono ?_
  rintro e w4 ⟨y, rfl, y0, y1, -, S4, g4⟩
  have hy := y1 (by omega)
  have HS4 := Lib.hid S4
  have HB4 := Lib.hid (below_src HB3.out g4 (by omega) z3)
  have z4 := HB4.out.size
  clear S4 g4 y1
  obtain ⟨m, hm⟩ : ∃ m, x * y = m := ⟨_, rfl⟩
  obtain ⟨m0, m1⟩ := mul_in x0 hx y0 hy
  rw [hm] at m0 m1
  have hw : IntKind.i64.wrap (x * y) = m := by rw [hm]; exact IntWalk.i64_in _ (by omega)
  have htz := timeT_size m0 m1
  clear hm
  go_wp2_with fail
  refine (l23Text_any m m0 m1 _).mono ?_
  rintro e w5 ⟨rfl, hb5⟩
  have HS5 := Lib.hid (HS4.out.later hb5)
  have HB5 := Lib.hid (Below.via hb5 HB4.out z4)
  have z5 := HB5.out.size
  clear hb5
  obtain ⟨t, ht⟩ : ∃ t, timeT m = t := ⟨_, rfl⟩
  rw [ht] at htz ⊢
  clear ht
  go_wp2_with fail
  refine (one_any b A n c (0 + 4) cs 8 _ HS5.out hn (by omega) (by omega)).mono ?_
  rintro e w6 ⟨q, rfl, S6, g6⟩
  have HS6 := Lib.hid S6
  have HB6 := Lib.hid (below_src HB5.out g6 (by omega) z5)
  have z6 := HB6.out.size
  clear S6 g6
  cases q
  case true =>
    go_wp2_with fail
    refine (textW b A n c (0 + 6) cs ttL 7 _ HS6.out hn (by omega) rfl (by omega) (by omega)).mono ?_
    rintro e w7 ⟨x, rfl, hx7, S7, g7⟩
    have HB7 := Lib.hid (below_src HB6.out g7 (by omega) z6)
    clear S7 g7
    go_wp2_with fail
    go_ret
    exact ⟨x, rfl, tt_size hx7, HB7.out⟩
  case false =>
    go_wp2_with fail
    refine (l01Spoil_any b A n c (0 + 6) cs t _ HS6.out hn (by omega) (by omega)).mono ?_
    rintro e w7 ⟨x, rfl, hx7, S7, g7⟩
    have HB7 := Lib.hid (below_src HB6.out g7 (by omega) z6)
    clear S7 g7
    go_wp2_with fail
    go_ret
    exact ⟨x, rfl, by omega, HB7.out⟩
def NcD (w : World) (e : Ending) (w' : World) : Prop := ∃ x y z : Int, e = .returned (.tuple #[.int .i64 x, .int .i64 y, .int .i64 z]) ∧ Below w.heap.size w w'
set_option maxHeartbeats 2000000 in
theorem DrawNewClock_any (A : Option Addr) (n c : Nat) (cs : List Int) (w : World) (hs : Sl w w.heap.size 1 A n (cs.map (Value.int .u8))) (hc : ∀ z ∈ cs, 0 ≤ z ∧ z ≤ 255) (hn : n ≤ 1048576) :
    Calls Tryd.prog 10 #[.slice A n c] w (NcD w) := by
  have HS := Lib.hid hs
  have HC := Lib.hid hc
  clear hs hc
  go_enter Tryd.func10, Tryd.ntmps10
  go_wp2_with fail
  refine (l00From_any A n c cs _ HS.out HC.out).mono ?_
  rintro e w1 ⟨b, rfl, hb, S1, hb1⟩
  have HS1 := Lib.hid S1
  have HB1 := Lib.hid hb1
  have z1 := HB1.out.size
  clear S1 hb1
  go_wp2_with fail
  refine (pick_any b A n c 0 cs 60000 _ HS1.out hn (by omega) (by omega)).mono ?_
  rintro e w3 ⟨x, rfl, -, -, -, S3, g3⟩
  have HS3 := Lib.hid S3
  have HB3 := Lib.hid (below_src HB1.out g3 (by omega) z1)
  have z3 := HB3.out.size
  clear S3 g3
  go_wp2_with fail
  refine (pick_any b A n c (0 + 2) cs 3000 _ HS3.out hn (by omega) (by omega)).mono ?_
  rintro e w4 ⟨y, rfl, -, -, -, S4, g4⟩
  have HS4 := Lib.hid S4
  have HB4 := Lib.hid (below_src HB3.out g4 (by omega) z3)
  have z4 := HB4.out.size
  clear S4 g4
  go_wp2_with fail
  refine (pick_any b A n c (0 + 4) cs 3000 _ HS4.out hn (by omega) (by omega)).mono ?_
  rintro e w5 ⟨z, rfl, -, -, -, S5, g5⟩
  have HS5 := Lib.hid S5
  have HB5 := Lib.hid (below_src HB4.out g5 (by omega) z4)
  have z5 := HB5.out.size
  clear S5 g5
  go_wp2_with fail
  refine (pick_any b A n c (0 + 6) cs 10 _ HS5.out hn (by omega) (by omega)).mono ?_
  rintro e w6 ⟨k, rfl, -, -, -, S6, g6⟩
  have HS6 := Lib.hid S6
  have HB6 := Lib.hid (below_src HB5.out g6 (by omega) z5)
  have z6 := HB6.out.size
  clear S6 g6
  by_cases k0 : k = 0
  · subst k0
    go_wp2_with fail
    refine (amongW b A n c (0 + 8) cs [-1, 0, 1, 36000000, 36000001] 5 _ HS6.out hn (by omega) rfl (by omega) (by omega)).mono ?_
    rintro e w7 ⟨v, rfl, -, S7, g7⟩
    have HB7 := Lib.hid (below_src HB6.out g7 (by omega) z6)
    clear S7 g7
    go_wp2_with fail
    go_ret3
    exact ⟨_, _, _, rfl, HB7.out⟩
  · have q0 : (k == 0) = false := beq_eq_false_iff_ne.mpr k0
    by_cases k1 : k = 1
    · subst k1
      go_wp2_with fail
      refine (amongW b A n c (0 + 8) cs [-1, 0, 36000000, 36000001] 4 _ HS6.out hn (by omega) rfl (by omega) (by omega)).mono ?_
      rintro e w7 ⟨v, rfl, -, S7, g7⟩
      have HB7 := Lib.hid (below_src HB6.out g7 (by omega) z6)
      clear S7 g7
      go_wp2_with fail
      go_ret3
      exact ⟨_, _, _, rfl, HB7.out⟩
    · have q1 : (k == 1) = false := beq_eq_false_iff_ne.mpr k1
      by_cases k2 : k = 2
      · subst k2
        go_wp2_with fail
        refine (amongW b A n c (0 + 8) cs [-1, 0, 36000000, 36000001] 4 _ HS6.out hn (by omega) rfl (by omega) (by omega)).mono ?_
        rintro e w7 ⟨v, rfl, -, S7, g7⟩
        have HB7 := Lib.hid (below_src HB6.out g7 (by omega) z6)
        clear S7 g7
        go_wp2_with fail
        go_ret3
        exact ⟨_, _, _, rfl, HB7.out⟩
      · have q2 : (k == 2) = false := beq_eq_false_iff_ne.mpr k2
        go_wp2_with fail
        go_ret3
        exact ⟨_, _, _, rfl, HB6.out⟩
end Go.Proofs.YtbepfonpfnllkaaDoor
/- Clocks copied and compared; ValidClock: the law. No conditions beyond lengths. -/
namespace Go.Proofs.YtbepfonpfnllkaaDoor
set_option linter.unusedSimpArgs false
set_option linter.unusedVariables false
open Go.RowKit

theorem Sl.copiedC {w : World} {zs : List Int} {n : Nat} (t : TypeId) (h : zs.length = n) : Sl (w.alloc (.cells (zs.map (Value.int .i64)).toArray t)) (w.alloc (.cells (zs.map (Value.int .i64)).toArray t)).heap.size 1 (some ⟨w.heap.size, 0, none⟩) n (zs.map (Value.int .i64)) :=
  ⟨by simp [h], fun _ => ⟨_, 0, rfl, by simp, fun j u hu => by rw [Nat.zero_add, World.cell?_alloc_at (hn := rfl)]; simpa using hu⟩⟩
/-- A copy of a clock. -/
def ClockPost (zs : List Int) (n : Nat) (inc del pl si : Int) (ru fa : Bool) (t : TypeId) (w : World) (e : Ending) (w' : World) : Prop :=
  ∃ g, e = .returned (.agg #[.slice (some ⟨g, 0, none⟩) n n, .int .i64 inc, .int .i64 del, .int .i64 pl, .int .i64 si, .bool ru, .bool fa]) ∧ w.heap.size ≤ g ∧ Blk w' g t (zs.map (Value.int .i64)).toArray ∧ Below w.heap.size w w'
end Go.Proofs.YtbepfonpfnllkaaDoor
/- FallsAt: both functions, and the law. No conditions beyond lengths. -/
namespace Go.Proofs.YtbepfonpfnllkaaDoor
set_option linter.unusedSimpArgs false
set_option linter.unusedVariables false
open Go.RowKit

theorem vC_of {zs : List Int} {inc del pl si : Int} {ru fa : Bool} (h : vC zs inc del pl si ru fa = true) : ∃ z0 z1, zs = [z0, z1] ∧ (0 ≤ z0 ∧ z0 ≤ 36000000) ∧ (0 ≤ z1 ∧ z1 ≤ 36000000) ∧ (0 ≤ inc ∧ inc ≤ 36000000) ∧ (0 ≤ del ∧ del ≤ 36000000) ∧ (0 ≤ si ∧ si ≤ 36000000) ∧ (pl = 0 ∨ pl = 1) ∧ (fa = true → ru = false) := by
  by_cases hl : zs.length = 2
  · obtain ⟨z0, z1, rfl⟩ := list2 hl
    rw [vC_two] at h
    simp only [Bool.and_eq_true] at h
    obtain ⟨⟨⟨⟨⟨⟨h0, h1⟩, h2⟩, h3⟩, h4⟩, h5⟩, h6⟩ := h
    have h5' := inB_of h5
    refine ⟨z0, z1, rfl, inB_of h0, inB_of h1, inB_of h2, inB_of h3, inB_of h4, by omega, ?_⟩
    intro hf
    subst hf
    simp at h6
    exact h6.1.2
  · rw [vC_len hl] at h
    cases h
def atP (zs : List Int) (pl : Int) : Int := zs.getD pl.toNat 0
def faC (zs : List Int) (inc del pl si : Int) (ru fa : Bool) : Int := if vC zs inc del pl si ru fa && ru then si + del + atP zs pl else 0
def faE (zs : List Int) (inc del pl si : Int) (ru fa : Bool) : Int := if vC zs inc del pl si ru fa then (if ru then 0 else 6) else 1
theorem fa_no {zs : List Int} {inc del pl si : Int} {ru fa : Bool} (h : vC zs inc del pl si ru fa = false) : faC zs inc del pl si ru fa = 0 ∧ faE zs inc del pl si ru fa = 1 := by rw [faC, faE, h]; exact ⟨rfl, rfl⟩
theorem fa_still {zs : List Int} {inc del pl si : Int} {fa : Bool} (h : vC zs inc del pl si false fa = true) : faC zs inc del pl si false fa = 0 ∧ faE zs inc del pl si false fa = 6 := by rw [faC, faE, h]; exact ⟨rfl, rfl⟩
theorem fa_yes {zs : List Int} {inc del pl si : Int} {fa : Bool} (h : vC zs inc del pl si true fa = true) : faC zs inc del pl si true fa = si + del + atP zs pl ∧ faE zs inc del pl si true fa = 0 := by rw [faC, faE, h]; exact ⟨rfl, rfl⟩
end Go.Proofs.YtbepfonpfnllkaaDoor
/- Lists of numbers compared by both functions. No conditions beyond lengths. -/
namespace Go.Proofs.YtbepfonpfnllkaaDoor
set_option linter.unusedSimpArgs false
set_option linter.unusedVariables false
open Go.RowKit

set_option maxHeartbeats 400000 in
theorem l00Same_any (A A' : Option Addr) (n n' c c' : Nat) (zs zs' : List Int) (w : World) (hs : Sl w w.heap.size 1 A n (zs.map (Value.int .i64))) (hs' : Sl w w.heap.size 1 A' n' (zs'.map (Value.int .i64))) (hn : n ≤ 9223372036854775807) (hn' : n' ≤ 9223372036854775807) :
    Calls Tryd.prog 35 #[.slice A n c, .slice A' n' c'] w fun e w' => e = .returned (.bool (zs == zs')) ∧ Below w.heap.size w w' := by
  have HL := Lib.hid hs.ints
  have HL' := Lib.hid hs'.ints
  by_cases he : n = n'
  case neg =>
    have hne : (zs == zs') = false := by
      rw [beq_eq_false_iff_ne]
      intro e
      exact he (by rw [← HL.out, ← HL'.out, e])
    have HN := Lib.hid hne
    clear hne
    go_enter Tryd.func35, Tryd.ntmps35
    go_wp2
    go_ret
    exact ⟨by rw [HN.out]; rfl, by (repeat' (first | (with_reducible exact Below.refl _ _) | (with_reducible assumption) | (with_reducible refine Below.alloc ?_ ?_ _) | (with_reducible refine Below.drew ?_) | (with_reducible refine belowDrewN ?_ _) | (with_reducible refine Below.setCell ?_ ?_ _) | (with_reducible refine Below.via (by with_reducible assumption) ?_ ?_) | (with_reducible refine Below.viaD (by with_reducible assumption) ?_ ?_) | (with_reducible exact Below.size (by with_reducible assumption)) | go_size | (with_reducible refine Nat.le_trans ?_ (Below.size (by with_reducible assumption))) | (with_reducible refine Nat.le_trans ?_ (sizeAlloc _ _)) | (with_reducible refine Nat.le_trans ?_ (sizeSet _ _ _)) | (with_reducible refine Nat.le_trans ?_ (sizeDrew _))))⟩
  case pos =>
    subst he
    go_enter Tryd.func35, Tryd.ntmps35
    go_wp2
    go_loopw [5] (fun i wr => ∃ k : Nat, k ≤ n ∧ i = .int .i64 k ∧ Hid (∀ j, j < k → zs.getD j 0 = zs'.getD j 0) ∧ Below w.heap.size w wr) (fun i _ => n - (intOf i).toNat)
    case atStart => exact ⟨0, Nat.zero_le _, rfl, fun j hj => absurd hj (by omega), Below.refl _ _⟩
    case round =>
      obtain ⟨k, hk, rfl, hpre, hbl⟩ := hrel
      by_cases hlt : k < n
      · obtain ⟨b, off, z, rfl, hb, HZ, hc⟩ := (hs.below hbl).int hlt
        obtain ⟨b', off', z', rfl, hb', HZ', hc'⟩ := (hs'.below hbl).int hlt
        by_cases hq : z = z'
        · subst hq
          go_wp2_with fail
          first | (refine wp_region_quiet_lit (by kernel_rfl) (by kernel_rfl) ?_; refine WQ.of ?_; (repeat (refine WQ.step (fun K hK => ?_); go_simp; first | (refine hK _ ?_; clear hK K) | (apply Exists.intro; refine ⟨fun _ => ?_, hK _ ?_⟩; (fail); clear hK K))); refine WQ.nil ?_; intro _ hw'; obtain ⟨nq, hw''⟩ := hw'; subst hw'') | go_quiet (fail)
          go_wp2_with fail
          go_roundw
          case rel =>
            refine ⟨k + 1, by omega, by go_num, fun j hj => ?_, by (repeat' (first | (with_reducible exact Below.refl _ _) | (with_reducible assumption) | (with_reducible refine Below.alloc ?_ ?_ _) | (with_reducible refine Below.drew ?_) | (with_reducible refine belowDrewN ?_ _) | (with_reducible refine Below.setCell ?_ ?_ _) | (with_reducible refine Below.via (by with_reducible assumption) ?_ ?_) | (with_reducible refine Below.viaD (by with_reducible assumption) ?_ ?_) | (with_reducible exact Below.size (by with_reducible assumption)) | go_size | (with_reducible refine Nat.le_trans ?_ (Below.size (by with_reducible assumption))) | (with_reducible refine Nat.le_trans ?_ (sizeAlloc _ _)) | (with_reducible refine Nat.le_trans ?_ (sizeSet _ _ _)) | (with_reducible refine Nat.le_trans ?_ (sizeDrew _))))⟩
            rcases Nat.lt_or_ge j k with h | h
            · exact hpre.out j h
            · obtain rfl : j = k := by omega
              rw [HZ.out, HZ'.out]
          case measure => simp [intOf]; omega
        · have hq' : (z == z') = false := beq_eq_false_iff_ne.2 hq
          have hE : (zs == zs') = false := by
            rw [beq_eq_false_iff_ne]
            intro e
            exact hq (by rw [← HZ.out, ← HZ'.out, e])
          have HE := Lib.hid hE
          clear hE
          go_wp2_with fail
          first | (refine wp_region_quiet_lit (by kernel_rfl) (by kernel_rfl) ?_; refine WQ.of ?_; (repeat (refine WQ.step (fun K hK => ?_); go_simp; first | (refine hK _ ?_; clear hK K) | (apply Exists.intro; refine ⟨fun _ => ?_, hK _ ?_⟩; (fail); clear hK K))); refine WQ.nil ?_; intro _ hw'; obtain ⟨nq, hw''⟩ := hw'; subst hw'') | go_quiet (fail)
          go_wp2_with fail
          go_ret
          exact ⟨by rw [HE.out]; rfl, by (repeat' (first | (with_reducible exact Below.refl _ _) | (with_reducible assumption) | (with_reducible refine Below.alloc ?_ ?_ _) | (with_reducible refine Below.drew ?_) | (with_reducible refine belowDrewN ?_ _) | (with_reducible refine Below.setCell ?_ ?_ _) | (with_reducible refine Below.via (by with_reducible assumption) ?_ ?_) | (with_reducible refine Below.viaD (by with_reducible assumption) ?_ ?_) | (with_reducible exact Below.size (by with_reducible assumption)) | go_size | (with_reducible refine Nat.le_trans ?_ (Below.size (by with_reducible assumption))) | (with_reducible refine Nat.le_trans ?_ (sizeAlloc _ _)) | (with_reducible refine Nat.le_trans ?_ (sizeSet _ _ _)) | (with_reducible refine Nat.le_trans ?_ (sizeDrew _))))⟩
      · obtain rfl : k = n := by omega
        have hE : (zs == zs') = true := by
          rw [beq_iff_eq]
          apply List.ext_getElem (by rw [HL.out, HL'.out])
          intro j h1 h2
          have := hpre.out j (by rw [← HL.out]; exact h1)
          simpa [List.getD_eq_getElem?_getD, h1, h2] using this
        have HE := Lib.hid hE
        clear hE
        go_wp2
        go_ret
        exact ⟨by rw [HE.out]; rfl, by (repeat' (first | (with_reducible exact Below.refl _ _) | (with_reducible assumption) | (with_reducible refine Below.alloc ?_ ?_ _) | (with_reducible refine Below.drew ?_) | (with_reducible refine belowDrewN ?_ _) | (with_reducible refine Below.setCell ?_ ?_ _) | (with_reducible refine Below.via (by with_reducible assumption) ?_ ?_) | (with_reducible refine Below.viaD (by with_reducible assumption) ?_ ?_) | (with_reducible exact Below.size (by with_reducible assumption)) | go_size | (with_reducible refine Nat.le_trans ?_ (Below.size (by with_reducible assumption))) | (with_reducible refine Nat.le_trans ?_ (sizeAlloc _ _)) | (with_reducible refine Nat.le_trans ?_ (sizeSet _ _ _)) | (with_reducible refine Nat.le_trans ?_ (sizeDrew _))))⟩
set_option maxHeartbeats 400000 in
theorem sameNumbers_any (A A' : Option Addr) (n n' c c' : Nat) (zs zs' : List Int) (w : World) (hs : Sl w w.heap.size 1 A n (zs.map (Value.int .i64))) (hs' : Sl w w.heap.size 1 A' n' (zs'.map (Value.int .i64))) (hn : n ≤ 9223372036854775807) (hn' : n' ≤ 9223372036854775807) :
    Calls Tryd.prog 36 #[.slice A n c, .slice A' n' c'] w fun e w' => e = .returned (.bool (zs == zs')) ∧ Below w.heap.size w w' := by
  have HL := Lib.hid hs.ints
  have HL' := Lib.hid hs'.ints
  by_cases he : n = n'
  case neg =>
    have hne : (zs == zs') = false := by
      rw [beq_eq_false_iff_ne]
      intro e
      exact he (by rw [← HL.out, ← HL'.out, e])
    have HN := Lib.hid hne
    clear hne
    go_enter Tryd.func36, Tryd.ntmps36
    go_wp2
    go_ret
    exact ⟨by rw [HN.out]; rfl, by (repeat' (first | (with_reducible exact Below.refl _ _) | (with_reducible assumption) | (with_reducible refine Below.alloc ?_ ?_ _) | (with_reducible refine Below.drew ?_) | (with_reducible refine belowDrewN ?_ _) | (with_reducible refine Below.setCell ?_ ?_ _) | (with_reducible refine Below.via (by with_reducible assumption) ?_ ?_) | (with_reducible refine Below.viaD (by with_reducible assumption) ?_ ?_) | (with_reducible exact Below.size (by with_reducible assumption)) | go_size | (with_reducible refine Nat.le_trans ?_ (Below.size (by with_reducible assumption))) | (with_reducible refine Nat.le_trans ?_ (sizeAlloc _ _)) | (with_reducible refine Nat.le_trans ?_ (sizeSet _ _ _)) | (with_reducible refine Nat.le_trans ?_ (sizeDrew _))))⟩
  case pos =>
    subst he
    go_enter Tryd.func36, Tryd.ntmps36
    go_wp2
    go_loopw [13] (fun i wr => ∃ k : Nat, k ≤ n ∧ i = .int .i64 k ∧ Hid (∀ j, j < k → zs.getD j 0 = zs'.getD j 0) ∧ Below w.heap.size w wr) (fun i _ => n - (intOf i).toNat)
    case atStart => exact ⟨0, Nat.zero_le _, rfl, fun j hj => absurd hj (by omega), Below.refl _ _⟩
    case round =>
      obtain ⟨k, hk, rfl, hpre, hbl⟩ := hrel
      by_cases hlt : k < n
      · obtain ⟨b, off, z, rfl, hb, HZ, hc⟩ := (hs.below hbl).int hlt
        obtain ⟨b', off', z', rfl, hb', HZ', hc'⟩ := (hs'.below hbl).int hlt
        by_cases hq : z = z'
        · subst hq
          go_wp2_with fail
          first | (refine wp_region_quiet_lit (by kernel_rfl) (by kernel_rfl) ?_; refine WQ.of ?_; (repeat (refine WQ.step (fun K hK => ?_); go_simp; first | (refine hK _ ?_; clear hK K) | (apply Exists.intro; refine ⟨fun _ => ?_, hK _ ?_⟩; (fail); clear hK K))); refine WQ.nil ?_; intro _ hw'; obtain ⟨nq, hw''⟩ := hw'; subst hw'') | go_quiet (fail)
          go_wp2_with fail
          go_roundw
          case rel =>
            refine ⟨k + 1, by omega, by go_num, fun j hj => ?_, by (repeat' (first | (with_reducible exact Below.refl _ _) | (with_reducible assumption) | (with_reducible refine Below.alloc ?_ ?_ _) | (with_reducible refine Below.drew ?_) | (with_reducible refine belowDrewN ?_ _) | (with_reducible refine Below.setCell ?_ ?_ _) | (with_reducible refine Below.via (by with_reducible assumption) ?_ ?_) | (with_reducible refine Below.viaD (by with_reducible assumption) ?_ ?_) | (with_reducible exact Below.size (by with_reducible assumption)) | go_size | (with_reducible refine Nat.le_trans ?_ (Below.size (by with_reducible assumption))) | (with_reducible refine Nat.le_trans ?_ (sizeAlloc _ _)) | (with_reducible refine Nat.le_trans ?_ (sizeSet _ _ _)) | (with_reducible refine Nat.le_trans ?_ (sizeDrew _))))⟩
            rcases Nat.lt_or_ge j k with h | h
            · exact hpre.out j h
            · obtain rfl : j = k := by omega
              rw [HZ.out, HZ'.out]
          case measure => simp [intOf]; omega
        · have hq' : (z == z') = false := beq_eq_false_iff_ne.2 hq
          have hE : (zs == zs') = false := by
            rw [beq_eq_false_iff_ne]
            intro e
            exact hq (by rw [← HZ.out, ← HZ'.out, e])
          have HE := Lib.hid hE
          clear hE
          go_wp2_with fail
          first | (refine wp_region_quiet_lit (by kernel_rfl) (by kernel_rfl) ?_; refine WQ.of ?_; (repeat (refine WQ.step (fun K hK => ?_); go_simp; first | (refine hK _ ?_; clear hK K) | (apply Exists.intro; refine ⟨fun _ => ?_, hK _ ?_⟩; (fail); clear hK K))); refine WQ.nil ?_; intro _ hw'; obtain ⟨nq, hw''⟩ := hw'; subst hw'') | go_quiet (fail)
          go_wp2_with fail
          go_ret
          exact ⟨by rw [HE.out]; rfl, by (repeat' (first | (with_reducible exact Below.refl _ _) | (with_reducible assumption) | (with_reducible refine Below.alloc ?_ ?_ _) | (with_reducible refine Below.drew ?_) | (with_reducible refine belowDrewN ?_ _) | (with_reducible refine Below.setCell ?_ ?_ _) | (with_reducible refine Below.via (by with_reducible assumption) ?_ ?_) | (with_reducible refine Below.viaD (by with_reducible assumption) ?_ ?_) | (with_reducible exact Below.size (by with_reducible assumption)) | go_size | (with_reducible refine Nat.le_trans ?_ (Below.size (by with_reducible assumption))) | (with_reducible refine Nat.le_trans ?_ (sizeAlloc _ _)) | (with_reducible refine Nat.le_trans ?_ (sizeSet _ _ _)) | (with_reducible refine Nat.le_trans ?_ (sizeDrew _))))⟩
      · obtain rfl : k = n := by omega
        have hE : (zs == zs') = true := by
          rw [beq_iff_eq]
          apply List.ext_getElem (by rw [HL.out, HL'.out])
          intro j h1 h2
          have := hpre.out j (by rw [← HL.out]; exact h1)
          simpa [List.getD_eq_getElem?_getD, h1, h2] using this
        have HE := Lib.hid hE
        clear hE
        go_wp2
        go_ret
        exact ⟨by rw [HE.out]; rfl, by (repeat' (first | (with_reducible exact Below.refl _ _) | (with_reducible assumption) | (with_reducible refine Below.alloc ?_ ?_ _) | (with_reducible refine Below.drew ?_) | (with_reducible refine belowDrewN ?_ _) | (with_reducible refine Below.setCell ?_ ?_ _) | (with_reducible refine Below.via (by with_reducible assumption) ?_ ?_) | (with_reducible refine Below.viaD (by with_reducible assumption) ?_ ?_) | (with_reducible exact Below.size (by with_reducible assumption)) | go_size | (with_reducible refine Nat.le_trans ?_ (Below.size (by with_reducible assumption))) | (with_reducible refine Nat.le_trans ?_ (sizeAlloc _ _)) | (with_reducible refine Nat.le_trans ?_ (sizeSet _ _ _)) | (with_reducible refine Nat.le_trans ?_ (sizeDrew _))))⟩
end Go.Proofs.YtbepfonpfnllkaaDoor
