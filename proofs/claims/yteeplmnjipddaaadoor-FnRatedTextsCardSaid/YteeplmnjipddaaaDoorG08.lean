/- ExpectedScore: both functions, and the law. No conditions. -/
import Derived.Test.YteeplmnjipddaaaDoorG03
import Derived.Test.YteeplmnjipddaaaDoorG06
import Derived.Test.YteeplmnjipddaaaDoorG07
import Derived.Test.YteeplmnjipddaaaDoorG05
import Derived.Test.YteeplmnjipddaaaDoorG00
import Derived.BigQuiet
import Derived.Deep.QuietTactic
/- The reference's source: one of some texts, a text with a change. Conditions: at most 2^20 bytes. -/
namespace Go.Proofs.YteeplmnjipddaaaDoor
set_option linter.unusedSimpArgs false
set_option linter.unusedVariables false
open Go.RowKit Go.WideShapes

set_option maxHeartbeats 1000000 in
theorem textD_any (b : Nat) (A : Option Addr) (n c M : Nat) (cs : List Int) (g m q : Nat) (ss : List ByteArray) (w : World) (h : Src w b A n c M cs) (hn : n ≤ 1048576) (hM : M ≤ 999999998) (hl : Sl w w.heap.size 1 (some ⟨g, 0, none⟩) m (ss.map Value.string)) (hg : g ≠ b) (hm : 2 ≤ m) (hm2 : m ≤ 1000) :
    Calls Tryd.prog 39 #[.pointer (some ⟨b, 0, none⟩), .slice (some ⟨g, 0, none⟩) m q] w fun e w' => ∃ x : ByteArray, e = .returned (.string x) ∧ x ∈ ss ∧ Src w' b A n c (M + 2) cs ∧ w.grownBy w' (some b) := by
  have HS := Lib.hid h
  have HL := Lib.hid hl
  have hlen : ss.length = m := by have := hl.1; simpa using this
  clear h hl
  go_enter Tryd.func39, Tryd.ntmps39
  go_wp2_with fail
  refine (pick_any b A n c M cs (m : Nat) _ HS.out hn hM (by omega)).mono ?_
  rintro e w1 ⟨x, rfl, hx0, hx1, -, S1, g1⟩
  have hx2 := hx1 (by omega)
  obtain ⟨k, rfl⟩ := Int.eq_ofNat_of_zero_le hx0
  have hk : k < m := by omega
  obtain ⟨b2, off, e2, hb2, hcc⟩ := HL.out.2 (by omega)
  injection e2 with e2
  injection e2 with e21 e22 _
  subst e21 e22
  obtain ⟨z, hz⟩ : ∃ z, ss[k]? = some z := ⟨_, List.getElem?_eq_getElem (by omega)⟩
  have hc := hcc k (.string z) (by rw [List.getElem?_map, hz]; rfl)
  have hc1 := g1.cell (a := ⟨g, 0 + k, none⟩) hc (by simpa using hg)
  have HS1 := Lib.hid S1
  have HG1 := Lib.hid g1
  have HM := Lib.hid (List.mem_of_getElem? hz)
  rw [Nat.zero_add] at hc1
  clear S1 g1 hx1 hc hcc hz
  go_wp2_with fail
  go_ret
  exact ⟨z, rfl, HM.out, HS1.out, HG1.out⟩
def spoilL : List ByteArray := [⟨#[32]⟩, ⟨#[48]⟩, ⟨#[45]⟩, ⟨#[120]⟩, ⟨#[49]⟩, ⟨#[57]⟩, ⟨#[46]⟩]
theorem spoil_one {x : ByteArray} (h : x ∈ spoilL) : x.size = 1 := by
  simp only [spoilL, List.mem_cons, List.not_mem_nil, or_false] at h
  rcases h with rfl | rfl | rfl | rfl | rfl | rfl | rfl <;> rfl
def SpoP (b : Nat) (A : Option Addr) (n c M : Nat) (cs : List Int) (z : Nat) (w : World) (e : Ending) (w' : World) : Prop := ∃ x : ByteArray, e = .returned (.string x) ∧ x.size ≤ z + 1 ∧ Src w' b A n c (M + 8) cs ∧ w.grownBy w' (some b)
set_option maxRecDepth 10000 in
set_option maxHeartbeats 2000000 in
theorem l01Spoil_any (b : Nat) (A : Option Addr) (n c M : Nat) (cs : List Int) (t : ByteArray) (w : World) (h : Src w b A n c M cs) (hn : n ≤ 1048576) (hM : M ≤ 999999000) (ht : t.size ≤ 1000000) :
    Calls Tryd.prog 22 #[.pointer (some ⟨b, 0, none⟩), .string t] w (SpoP b A n c M cs t.size w) := by
  have HS := Lib.hid h
  have HAB := Lib.hid h.aBelow
  have hbl := h.lt
  clear h
  go_enter Tryd.func22, Tryd.ntmps22
  go_wp2_with fail
  refine (pick_any b A n c M cs 5 _ HS.out hn (by omega) (by omega)).mono ?_
  rintro e w1 ⟨x, rfl, hx0, hx1, -, S1, g1⟩
  have hx5 := hx1 (by omega)
  have HS1 := Lib.hid S1
  have HG1 := Lib.hid g1
  have z1 := g1.size
  clear S1 g1 hx1
  by_cases h0 : x = 0
  · subst h0
    go_wp2_with fail
    refine (pick_any b A n c (M + 2) cs ((t.size : Nat) + 1 : Int) _ HS1.out hn (by omega) (by omega)).mono ?_
    rintro e w2 ⟨y, rfl, hy0, hy1, hy2, S2, g2⟩
    obtain ⟨k, rfl⟩ := Int.eq_ofNat_of_zero_le hy0
    have hk : k ≤ t.size := by omega
    have HS2 := Lib.hid S2
    have HG2 := Lib.hid (grown_tr HG1.out g2)
    have z2 := g2.size
    obtain ⟨p, hp⟩ : ∃ p, t.extract 0 k = p := ⟨_, rfl⟩
    obtain ⟨q, hq⟩ : ∃ q, t.extract k t.size = q := ⟨_, rfl⟩
    have hps : p.size + q.size = t.size := by rw [← hp, ← hq, ByteArray.size_extract, ByteArray.size_extract]; omega
    have HT : Hid (∀ Q : Ending → World → Prop, (∀ (x : ByteArray) w', x.size = 1 → Src w' b A n c (M + 8) cs → w.grownBy w' (some b) → Q (.returned (.string x)) w') → Calls Tryd.prog 39 #[.pointer (some ⟨b, 0, none⟩), .slice (some ⟨w2.heap.size, 0, none⟩) 7 7] (w2.alloc (.cells #[.string ⟨#[32]⟩, .string ⟨#[48]⟩, .string ⟨#[45]⟩, .string ⟨#[120]⟩, .string ⟨#[49]⟩, .string ⟨#[57]⟩, .string ⟨#[46]⟩] 9)).drew Q) := fun Q hQ => by
      have hbl2 : b < w2.heap.size := HS2.out.lt
      refine Calls.mono (textD_any b A n c (M + 4) cs w2.heap.size 7 7 spoilL (w2.alloc (.cells #[.string ⟨#[32]⟩, .string ⟨#[48]⟩, .string ⟨#[45]⟩, .string ⟨#[120]⟩, .string ⟨#[49]⟩, .string ⟨#[57]⟩, .string ⟨#[46]⟩] 9)).drew ?_ hn (by omega) ?_ (by omega) (by omega) (by omega)) ?_
      · exact src_dr ((HS2.out.later (Below.alloc (Below.refl _ _) (Nat.le_refl _) _)).mono (by omega)) 1
      · exact Sl.drewN (k := 1) ⟨rfl, fun _ => ⟨_, 0, rfl, by simp, fun j u hu => by rw [Nat.zero_add, (Blk.new w2 9 _).cell, List.getElem?_toArray]; exact hu⟩⟩
      · rintro e w' ⟨x, rfl, hx, s3, g3⟩
        exact hQ x w' (spoil_one hx) (s3.mono (by omega)) (grown_tr (src_grown (grown_alloc HG2.out _) 1) g3)
    clear S2 g2 hy1 hy2
    go_wp2_with fail
    go_region_with (go_at_call 39; (with_reducible refine HT.out _ ?_); intro x w3 hx s3 g3; have hadd1 := add_all p x _ rfl (by omega); obtain ⟨px, hpx⟩ : ∃ y, p ++ x = y := ⟨_, rfl⟩; rw [hpx] at hadd1; have hpz : px.size = p.size + 1 := (by rw [← hpx, ByteArray.size_append, hx]); have hadd2 := add_all px q _ rfl (by omega))
    go_wp2_with fail
    go_ret
    exact ⟨_, rfl, by rw [ByteArray.size_append]; omega, s3, g3⟩
  · by_cases h1 : x = 1
    · subst h1
      by_cases h0 : t.size = 0
      case pos =>
        obtain rfl : t = ⟨#[]⟩ := by
          apply ByteArray.ext
          exact Array.eq_empty_of_size_eq_zero h0
        go_wp2_with fail
        go_ret
        exact ⟨_, rfl, by omega, HS1.out.mono (by omega), HG1.out⟩
      case neg =>
        have h1 : 0 < t.size := by omega
        have hz0 : (t.toList == ({ data := #[] } : ByteArray).toList) = false := by rw [beq_eq_false_iff_ne]; intro h; rw [toList_inj h] at h1; exact absurd h1 (by decide)
        have hz1 : (t.toList == []) = false := by rw [beq_eq_false_iff_ne]; intro h; rw [ByteArray.toList_eq] at h; have := ba_len t; rw [h] at this; exact h0 this.symm
        clear h0
        go_wp2_with fail
        refine (pick_any b A n c (M + 2) cs (t.size : Nat) _ HS1.out hn (by omega) (by omega)).mono ?_
        rintro e w2 ⟨y, rfl, hy0, hy1, hy2, S2, g2⟩
        obtain ⟨k, rfl⟩ := Int.eq_ofNat_of_zero_le hy0
        have hk : k < t.size := by omega
        have HS2 := Lib.hid S2
        have HG2 := Lib.hid (grown_tr HG1.out g2)
        have z2 := g2.size
        obtain ⟨p, hp⟩ : ∃ p, t.extract 0 k = p := ⟨_, rfl⟩
        obtain ⟨q, hq⟩ : ∃ q, t.extract (k + 1) t.size = q := ⟨_, rfl⟩
        have hps : p.size + q.size ≤ t.size := by rw [← hp, ← hq, ByteArray.size_extract, ByteArray.size_extract]; omega
        have hadd := add_all p q _ rfl (by omega)
        clear S2 g2 hy1 hy2
        go_wp2_with fail
        go_region
        go_wp2_with fail
        go_ret
        exact ⟨_, rfl, by rw [ByteArray.size_append]; omega, (src_dr HS2.out _).mono (by omega), src_grown HG2.out _⟩
    · have hb0 : (x == 0) = false := beq_eq_false_iff_ne.mpr h0
      have hb1 : (x == 1) = false := beq_eq_false_iff_ne.mpr h1
      go_wp2_with fail
      go_ret
      exact ⟨t, rfl, by omega, HS1.out.mono (by omega), HG1.out⟩
end Go.Proofs.YteeplmnjipddaaaDoor
/- Contracts of the rating functions that only compute. No conditions. -/
namespace Go.Proofs.YteeplmnjipddaaaDoor
set_option linter.unusedSimpArgs false
set_option linter.unusedVariables false
open Go.RowKit

def stepR (a b : Int) : Int := if b < 10 then 40 else if a < 2000 then 20 else 10
theorem stepR1 {a b : Int} (h : b < 10) : stepR a b = 40 := if_pos h
theorem stepR2 {a b : Int} (h : 10 ≤ b) (h2 : a < 2000) : stepR a b = 20 := by rw [stepR, if_neg (by omega), if_pos h2]
theorem stepR3 {a b : Int} (h : 10 ≤ b) (h2 : 2000 ≤ a) : stepR a b = 10 := by rw [stepR, if_neg (by omega), if_neg (by omega)]
def stepC (a b : Int) : Int := if validB a b then stepR a b else 0
def stepE (a b : Int) : Int := if validB a b then 0 else 1
end Go.Proofs.YteeplmnjipddaaaDoor
/- The expected score: what both functions compute. Condition: the difference of two ratings. -/
namespace Go.Proofs.YteeplmnjipddaaaDoor
set_option linter.unusedSimpArgs false
set_option linter.unusedVariables false
open Go.RowKit

def tabE : List Int := [500, 571, 640, 703, 760, 808, 849, 882, 909, 930, 947, 960, 969, 977, 983, 987, 990]
def expP (n : Nat) : Int := if 800 ≤ n then 990 else tabE.getD (n / 50) 0 + (tabE.getD (n / 50 + 1) 0 - tabE.getD (n / 50) 0) * ((n % 50 : Nat) : Int) / 50
def expE (d : Int) : Int := if d < 0 then 1000 - expP (-d).toNat else expP d.toNat
theorem tab_bd : ∀ k, k < 16 → 500 ≤ tabE.getD k 0 ∧ tabE.getD k 0 ≤ tabE.getD (k + 1) 0 ∧ tabE.getD (k + 1) 0 ≤ 990 ∧ tabE.getD (k + 1) 0 - tabE.getD k 0 ≤ 100 := by decide
theorem tab_cell (w : World) (t : TypeId) (k : Nat) (hk : k < 17) :
    (w.alloc (Obj.cells #[.int .i64 500, .int .i64 571, .int .i64 640, .int .i64 703, .int .i64 760, .int .i64 808, .int .i64 849, .int .i64 882, .int .i64 909, .int .i64 930, .int .i64 947, .int .i64 960, .int .i64 969, .int .i64 977, .int .i64 983, .int .i64 987, .int .i64 990] t)).cell? ⟨w.heap.size, k, none⟩ = some (.int .i64 (tabE.getD k 0)) := by
  rw [World.cell?_alloc_at (hn := rfl)]
  have h : k = 0 ∨ k = 1 ∨ k = 2 ∨ k = 3 ∨ k = 4 ∨ k = 5 ∨ k = 6 ∨ k = 7 ∨ k = 8 ∨ k = 9 ∨ k = 10 ∨ k = 11 ∨ k = 12 ∨ k = 13 ∨ k = 14 ∨ k = 15 ∨ k = 16 := by omega
  rcases h with rfl | rfl | rfl | rfl | rfl | rfl | rfl | rfl | rfl | rfl | rfl | rfl | rfl | rfl | rfl | rfl | rfl <;> rfl
theorem expP_bd (n : Nat) : 500 ≤ expP n ∧ expP n ≤ 990 := by
  by_cases h8 : 800 ≤ n
  · rw [expP, if_pos h8]; omega
  · have hb := tab_bd (n / 50) (by omega)
    rw [expP, if_neg h8]
    generalize tabE.getD (n / 50) 0 = lo at *
    generalize tabE.getD (n / 50 + 1) 0 = hi at *
    obtain ⟨b1, b2, b3, b4⟩ := hb
    have m1 : 0 ≤ (hi - lo) * ((n % 50 : Nat) : Int) := Int.mul_nonneg (by omega) (by omega)
    have m2 : (hi - lo) * ((n % 50 : Nat) : Int) ≤ (hi - lo) * 50 := Int.mul_le_mul (by omega) (by omega) (by omega) (by omega)
    omega
theorem expE_bd (d : Int) : 10 ≤ expE d ∧ expE d ≤ 990 := by
  unfold expE
  split
  · have := expP_bd (-d).toNat; omega
  · have := expP_bd d.toNat; omega
theorem expE_nat (n : Nat) : expE n = expP n := by
  rw [expE, if_neg (by omega)]; rfl
theorem expE_neg (n : Nat) (h : 0 < n) : expE (-(n : Int)) = 1000 - expP n := by
  rw [expE, if_pos (by omega)]; simp
end Go.Proofs.YteeplmnjipddaaaDoor
/- ExpectedScore: both functions, and the law. No conditions. -/
namespace Go.Proofs.YteeplmnjipddaaaDoor
set_option linter.unusedSimpArgs false
set_option linter.unusedVariables false
open Go.RowKit

def exC (a b : Int) : Int := if inB a 0 4000 && inB b 0 4000 then expE (a - b) else 0
def exE (a b : Int) : Int := if inB a 0 4000 && inB b 0 4000 then 0 else 2
end Go.Proofs.YteeplmnjipddaaaDoor
