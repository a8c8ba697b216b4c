/- A position's place in a memory, by both functions. Conditions: valid numbers. -/
import Derived.Test.YtpcenpedbdenmaaSlot1
import Derived.Test.YtpcenpedbdenmaaPos
namespace Go.Proofs.Ytpcenpedbdenmaa
set_option linter.unusedSimpArgs false
set_option linter.unusedVariables false
open Go.RowKit Go.WideShapes Go.ChangeShapes Go.Deep

def hashR (ps : List Int) (p : Int) : Nat → Int
  | 0 => p + 1
  | k + 1 => (31 * hashR ps p k + ps.getD k 0) % 1000003
theorem hashR_bd {ps : List Int} {p : Int} (ho : okL ps = true) (h0 : 0 ≤ p) (h1 : p ≤ 1) : ∀ k, k ≤ ps.length → 0 ≤ hashR ps p k ∧ hashR ps p k ≤ 1000003
  | 0, _ => by rw [hashR]; omega
  | k + 1, hk => by
    rw [hashR]
    have := Int.emod_nonneg (31 * hashR ps p k + ps.getD k 0) (b := 1000003) (by omega)
    have := Int.emod_lt_of_pos (31 * hashR ps p k + ps.getD k 0) (b := 1000003) (by omega)
    omega
def placeR (ps : List Int) (p : Int) (n : Nat) : Int := hashR ps p ps.length % (n : Int)
theorem okL_at {ps : List Int} (ho : okL ps = true) {k : Nat} (hk : k < ps.length) : 0 ≤ ps.getD k 0 ∧ ps.getD k 0 ≤ 96 := inB_of (List.all_eq_true.1 ho _ (getD_mem 0 hk))
set_option maxHeartbeats 1000000 in
theorem place_any (r : Ru) (A A1 A2 : Option Addr) (n c n1 c1 n2 c2 : Nat) (p : Int) (ps : List Int) (w : World) (hs : Sl w w.heap.size 1 A1 n1 (ps.map (Value.int .i64))) (ho : okL ps = true) (h0 : 0 ≤ p) (h1 : p ≤ 1) (hn : 1 ≤ n) (hn2 : n ≤ 64) (hm : n1 ≤ 1048576) :
    Calls Try.prog 60 #[.agg #[.int .i64 r.p, .int .i64 r.s, .bool r.st, .bool r.sk, .bool r.re, .bool r.fe, .bool r.ag, .int .i64 r.ca, .int .i64 r.sl, .slice A n c], .agg #[.slice A1 n1 c1, .slice A2 n2 c2, .int .i64 p]] w fun e w' => e = .returned (.int .i64 (placeR ps p n)) ∧ Below w.heap.size w w' := by
  have HL := Lib.hid hs.ints
  have HB := Lib.hid (hashR_bd ho h0 h1)
  have HO := Lib.hid ho
  clear ho
  go_enter Try.func60, Try.ntmps60
  go_wp2
  go_loop [5, 14] (fun h i => ∃ k : Nat, k ≤ n1 ∧ i = .int .i64 k ∧ h = .int .i64 (hashR ps p k)) (fun _ i => n1 - (intOf i).toNat)
  case atStart => exact ⟨0, Nat.zero_le _, rfl, rfl⟩
  case round =>
    obtain ⟨k, hk, rfl, rfl⟩ := hrel
    have hkb := HB.out k (by rw [HL.out]; exact hk)
    by_cases hlt : k < n1
    · obtain ⟨b, off, z, rfl, hb, HZ, hc⟩ := hs.int hlt
      have hzb := okL_at HO.out (k := k) (by rw [HL.out]; exact hlt)
      rw [HZ.out] at hzb
      have HS : Hid (hashR ps p (k + 1) = (31 * hashR ps p k + z) % 1000003) := by unfold Hid; rw [hashR, HZ.out]
      obtain ⟨h, hh⟩ : ∃ h, hashR ps p k = h := ⟨_, rfl⟩
      rw [hh] at hkb HS ⊢
      clear hh
      go_wp2
      go_round
      case rel =>
        refine ⟨k + 1, by omega, by go_num, ?_⟩
        rw [HS.out]; try go_num
      case measure => first | (simp [intOf]; done) | (simp [intOf]; omega)
    · obtain rfl : k = n1 := by omega
      have HP : Hid (placeR ps p n = hashR ps p k % (n : Int)) := by unfold Hid; rw [placeR, HL.out]
      obtain ⟨h, hh⟩ : ∃ h, hashR ps p k = h := ⟨_, rfl⟩
      rw [hh] at hkb HP ⊢
      clear hh
      go_wp2
      go_ret
      exact ⟨by rw [HP.out]; try go_num, by (repeat' (first | (with_reducible exact Below.refl _ _) | (with_reducible assumption) | (with_reducible refine Below.alloc ?_ ?_ _) | (with_reducible refine Below.drew ?_) | (with_reducible refine belowDrewN ?_ _) | (with_reducible refine Below.setCell ?_ ?_ _) | (with_reducible refine Below.via (by with_reducible assumption) ?_ ?_) | (with_reducible refine Below.viaD (by with_reducible assumption) ?_ ?_) | (with_reducible exact Below.size (by with_reducible assumption)) | go_size | (with_reducible refine Nat.le_trans ?_ (Below.size (by with_reducible assumption))) | (with_reducible refine Nat.le_trans ?_ (sizeAlloc _ _)) | (with_reducible refine Nat.le_trans ?_ (sizeSet _ _ _)) | (with_reducible refine Nat.le_trans ?_ (sizeDrew _))))⟩
set_option maxHeartbeats 1000000 in
theorem l16Hash_any (A1 : Option Addr) (n n1 c1 : Nat) (p : Int) (ps : List Int) (w : World) (hs : Sl w w.heap.size 1 A1 n1 (ps.map (Value.int .i64))) (ho : okL ps = true) (h0 : 0 ≤ p) (h1 : p ≤ 1) (hn : 1 ≤ n) (hn2 : n ≤ 64) (hm : n1 ≤ 1048576) :
    Calls Try.prog 83 #[.slice A1 n1 c1, .int .i64 p, .int .i64 (n : Nat)] w fun e w' => e = .returned (.int .i64 (placeR ps p n)) ∧ w = w' := by
  have HL := Lib.hid hs.ints
  have HB := Lib.hid (hashR_bd ho h0 h1)
  have HO := Lib.hid ho
  clear ho
  go_enter Try.func83, Try.ntmps83
  go_wp2
  go_loop [7, 8] (fun h i => ∃ k : Nat, k ≤ n1 ∧ i = .int .i64 k ∧ h = .int .i64 (hashR ps p k)) (fun _ i => n1 - (intOf i).toNat)
  case atStart => exact ⟨0, Nat.zero_le _, rfl, rfl⟩
  case round =>
    obtain ⟨k, hk, rfl, rfl⟩ := hrel
    have hkb := HB.out k (by rw [HL.out]; exact hk)
    by_cases hlt : k < n1
    · obtain ⟨b, off, z, rfl, hb, HZ, hc⟩ := hs.int hlt
      have hzb := okL_at HO.out (k := k) (by rw [HL.out]; exact hlt)
      rw [HZ.out] at hzb
      have HS : Hid (hashR ps p (k + 1) = (31 * hashR ps p k + z) % 1000003) := by unfold Hid; rw [hashR, HZ.out]
      obtain ⟨h, hh⟩ : ∃ h, hashR ps p k = h := ⟨_, rfl⟩
      rw [hh] at hkb HS ⊢
      clear hh
      go_wp2
      go_round
      case rel =>
        refine ⟨k + 1, by omega, by go_num, ?_⟩
        rw [HS.out]; try go_num
      case measure => first | (simp [intOf]; done) | (simp [intOf]; omega)
    · obtain rfl : k = n1 := by omega
      have HP : Hid (placeR ps p n = hashR ps p k % (n : Int)) := by unfold Hid; rw [placeR, HL.out]
      obtain ⟨h, hh⟩ : ∃ h, hashR ps p k = h := ⟨_, rfl⟩
      rw [hh] at hkb HP ⊢
      clear hh
      go_wp2
      go_ret
      exact ⟨by rw [HP.out]; try go_num, rfl⟩
end Go.Proofs.Ytpcenpedbdenmaa
