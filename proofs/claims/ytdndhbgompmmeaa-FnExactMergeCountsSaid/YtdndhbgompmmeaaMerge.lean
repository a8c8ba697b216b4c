/- MergeCounts: both functions. Conditions: lengths below 2^20. -/
import Derived.Test.YtdndhbgompmmeaaSS
namespace Go.Proofs.Ytdndhbgompmmeaa
set_option linter.unusedSimpArgs false
set_option linter.unusedVariables false
open Go.RowKit

def mgOk1 (m : Nat) (l : List Int) : Bool := (l.length == m) && l.all (fun z => inB z 0 3000)
def mgOk (pss : List (List Int)) : Bool := pss.all (mgOk1 (pss.getD 0 []).length)
def colSum (pss : List (List Int)) : Nat → Nat → Int
  | 0, _ => 0
  | k + 1, i => colSum pss k i + (pss.getD k []).getD i 0
/-- The row whose first i sums have the first k + 1 lists, the others the first k. -/
def rowMix (pss : List (List Int)) (m k i : Nat) : List Int := (List.range m).map fun t => if t < i then colSum pss (k + 1) t else colSum pss k t
/-- What MergeCounts returns. -/
def mgR (pss : List (List Int)) (n : Nat) : List Int × Int := if n = 0 then ([], 6) else if mgOk pss then (rowMix pss (pss.getD 0 []).length n 0, 0) else ([], 1)
theorem rowMix_len (pss : List (List Int)) (m k i : Nat) : (rowMix pss m k i).length = m := by simp [rowMix]
theorem rowMix_at (pss : List (List Int)) {m k i t : Nat} (ht : t < m) : (rowMix pss m k i).getD t 0 = if t < i then colSum pss (k + 1) t else colSum pss k t := by
  rw [rowMix, List.getD_eq_getElem?_getD, List.getElem?_map, List.getElem?_range ht]; rfl
theorem rowMix_full (pss : List (List Int)) (m k : Nat) : rowMix pss m k m = rowMix pss m (k + 1) 0 := by
  apply List.map_congr_left
  intro t ht
  rw [if_pos (List.mem_range.1 ht), if_neg (by omega)]
theorem rowMix_zero (pss : List (List Int)) (m : Nat) : rowMix pss m 0 0 = List.replicate m 0 := by
  rw [rowMix, List.eq_replicate_iff]
  refine ⟨by simp, fun b hb => ?_⟩
  obtain ⟨t, _, rfl⟩ := List.mem_map.1 hb
  simp [colSum]
theorem rowMix_set (pss : List (List Int)) {m k i : Nat} (hi : i < m) : (rowMix pss m k i).set i (colSum pss (k + 1) i) = rowMix pss m k (i + 1) := by
  apply List.ext_getElem?
  intro t
  rw [List.getElem?_set]
  rcases Nat.lt_or_ge t m with ht | ht
  · have e : ∀ j, (rowMix pss m k j)[t]? = some (if t < j then colSum pss (k + 1) t else colSum pss k t) := by
      intro j; rw [rowMix, List.getElem?_map, List.getElem?_range ht]; rfl
    rw [e, e]
    by_cases h : i = t
    · subst h; simp [rowMix_len, hi]
    · rw [if_neg h]
      by_cases h2 : t < i
      · rw [if_pos h2, if_pos (by omega)]
      · rw [if_neg h2, if_neg (by omega)]
  · rw [List.getElem?_eq_none (by rw [rowMix_len]; exact ht), List.getElem?_eq_none (by rw [rowMix_len]; exact ht)]
    split
    · omega
    · rfl
theorem mgOk1_of {m : Nat} {l : List Int} (h : mgOk1 m l = true) : l.length = m ∧ ∀ t, t < m → 0 ≤ l.getD t 0 ∧ l.getD t 0 ≤ 3000 := by
  rw [mgOk1, Bool.and_eq_true, beq_iff_eq, List.all_eq_true] at h
  exact ⟨h.1, fun t ht => inB_of (h.2 _ (getD_mem 0 (by omega)))⟩
theorem mgOk1_t {m : Nat} {l : List Int} (h : l.length = m) (h2 : ∀ t, t < m → inB (l.getD t 0) 0 3000 = true) : mgOk1 m l = true := by
  rw [mgOk1, Bool.and_eq_true, beq_iff_eq]
  exact ⟨h, all_true (d := 0) fun j hj => h2 j (by omega)⟩
theorem mgOk1_f1 {m : Nat} {l : List Int} (h : l.length ≠ m) : mgOk1 m l = false := by
  rw [mgOk1, beq_eq_false_iff_ne.2 h]; rfl
theorem mgOk1_f2 {m t : Nat} {l : List Int} (ht : t < l.length) (h : inB (l.getD t 0) 0 3000 = false) : mgOk1 m l = false := by
  rw [mgOk1, all_false ht h, Bool.and_false]
theorem colSum_bd {pss : List (List Int)} {m k t : Nat} (h : ∀ j, j < k → mgOk1 m (pss.getD j []) = true) (ht : t < m) : 0 ≤ colSum pss k t ∧ colSum pss k t ≤ 3000 * (k : Int) := by
  induction k with
  | zero => simp [colSum]
  | succ k ih =>
    have h1 := ih (fun j hj => h j (by omega))
    have h2 := (mgOk1_of (h k (by omega))).2 t ht
    rw [colSum]
    omega
theorem mgR_bad {pss : List (List Int)} {n k : Nat} (hl : pss.length = n) (hk : k < n) (h : mgOk1 (pss.getD 0 []).length (pss.getD k []) = false) : mgR pss n = ([], 1) := by
  have : mgOk pss = false := all_false (d := []) (by omega) h
  rw [mgR, if_neg (by omega), this]; rfl
theorem mgR_good {pss : List (List Int)} {n : Nat} (hl : pss.length = n) (h0 : 0 < n) (h : ∀ j, j < n → mgOk1 (pss.getD 0 []).length (pss.getD j []) = true) : mgR pss n = (rowMix pss (pss.getD 0 []).length n 0, 0) := by
  have : mgOk pss = true := all_true (d := []) fun j hj => h j (by omega)
  rw [mgR, if_neg (by omega), this]; rfl
theorem pairI {α : Type} {x x' : α} {z z' : Int} (h : (x', z') = (x, z)) : x' = x ∧ z' = z := by
  injection h with h1 h2
  exact ⟨h1, h2⟩
theorem arrI_get {zs : List Int} {d : Nat} (h : d < zs.length) : (zs.map (Value.int .i64)).toArray[d]? = some (.int .i64 (zs.getD d 0)) := by
  rw [List.getElem?_toArray]; exact getD_map_int h
theorem arrI_set (zs : List Int) (d : Nat) (v : Int) : (zs.map (Value.int .i64)).toArray.setIfInBounds d (.int .i64 v) = ((zs.set d v).map (Value.int .i64)).toArray := by
  rw [List.setIfInBounds_toArray, ← List.map_set]
def MgPost (P : Program) (L : List Int) (code : Int) (w : World) (e : Ending) (w' : World) : Prop :=
  ∃ (A : Option Addr) (g q cap : Nat), e = .returned (.tuple #[.slice A q cap, .int .i64 code]) ∧ w.heap.size ≤ g ∧ Own w' g 2 1 A q L ∧ q ≤ 1048576 ∧ Below w.heap.size w w'
theorem own_none (w : World) (g : Nat) (t : TypeId) (m : Nat) (A : Option Addr) : Own w g t m A 0 [] := ⟨by simp, fun h => absurd h (by omega)⟩
theorem own_blk {w : World} {g : Nat} {t : TypeId} {n : Nat} {L : List Int} (h : Blk w g t (L.map (Value.int .i64)).toArray) (hl : L.length = n) : Own w g t 1 (some ⟨g, 0, none⟩) n L :=
  ⟨by omega, fun _ => ⟨rfl, [], by simpa using h⟩⟩
set_option maxRecDepth 100000 in
set_option maxHeartbeats 4000000 in
theorem MergeCounts_any (A : Option Addr) (n c : Nat) (pss : List (List Int)) (w : World) (hs : Sl2 w w.heap.size A n pss) (hn : n + sumLen pss n ≤ 1048576) (L : List Int) (code : Int) (hr : mgR pss n = (L, code)) :
    Calls Try.prog 17 #[.slice A n c] w (MgPost Try.prog L code w) := by
  by_cases h0 : n = 0
  · subst h0
    rw [mgR, if_pos rfl] at hr
    obtain ⟨rfl, rfl⟩ := pairI hr
    go_enter Try.func17, Try.ntmps17
    go_wp2
    go_ret2
    exact ⟨none, w.heap.size, 0, 0, rfl, Nat.le_refl _, own_none _ _ _ _ _, by omega, by (repeat' (first | (with_reducible exact Below.refl _ _) | (with_reducible assumption) | (with_reducible refine Below.alloc ?_ ?_ _) | (with_reducible refine Below.drew ?_) | (with_reducible refine belowDrewN ?_ _) | (with_reducible refine Below.setCell ?_ ?_ _) | (with_reducible refine Below.via (by with_reducible assumption) ?_ ?_) | (with_reducible exact Below.size (by with_reducible assumption)) | go_size | (with_reducible refine Nat.le_trans ?_ (Below.size (by with_reducible assumption))) | (with_reducible refine Nat.le_trans ?_ (sizeAlloc _ _)) | (with_reducible refine Nat.le_trans ?_ (sizeSet _ _ _)) | (with_reducible refine Nat.le_trans ?_ (sizeDrew _))))⟩
  have hn0 : 0 < n := by omega
  have HR := Lib.hid hr
  clear hr h0
  obtain ⟨b, off, l0, A0, m, c0, rfl, hb, HL0, hc0, hsl0, _⟩ := hs.row hn0
  have hm2 : m ≤ 1048576 := by have h5 := sumLen_each pss hn0; rw [HL0.out, hsl0.ints] at h5; omega
  have HM : Hid ((pss.getD 0 []).length = m) := by unfold Hid; rw [HL0.out, hsl0.ints]
  obtain ⟨i0, hi, hz0, hz1, hz2⟩ := info_parts info_int64
  have hmk := fun W => run_makeN (P := Try.prog) 26 2 i0 (.int .i64 0) Try.underlying26 hi hz0 .i64 .i64 m m (Nat.le_refl _) (by rw [hz2]; omega) (by omega) W
  rw [hz1, Nat.mul_one] at hmk
  rw [Nat.add_zero] at hc0
  clear hi hz0 hz1 hz2 hsl0 HL0
  have HS := Lib.hid hs
  have HPL := Lib.hid hs.len
  clear hs
  go_enter Try.func17, Try.ntmps17
  go_wp2
  go_loop [18] (fun i => ∃ k : Nat, k ≤ n ∧ i = .int .i64 k ∧ Hid (∀ j, j < k → mgOk1 m (pss.getD j []) = true)) (fun i => n - (intOf i).toNat)
  case atStart => exact ⟨0, Nat.zero_le _, rfl, fun j hj => absurd hj (by omega)⟩
  case round =>
    obtain ⟨k, hk, rfl, hpre⟩ := hrel
    by_cases hlt : k < n
    · obtain ⟨b', off', l, B1, m1, c1, e, hb', HL, hc1, hsl, _⟩ := HS.out.row hlt
      injection e with e
      injection e with e1 e2 _
      subst e1 e2
      have HLM := Lib.hid hsl.ints
      have HSL := Lib.hid hsl
      clear hsl
      by_cases hmm : m1 = m
      case neg =>
        have hE : Hid (mgR pss n = ([], 1)) := mgR_bad HPL.out hlt (by rw [HM.out, HL.out]; exact mgOk1_f1 (by rw [HLM.out]; exact hmm))
        obtain ⟨rfl, rfl⟩ := pairI (HR.out.symm.trans hE.out)
        go_wp2_with fail
        go_ret2
        exact ⟨none, w.heap.size, 0, 0, rfl, Nat.le_refl _, own_none _ _ _ _ _, by omega, by (repeat' (first | (with_reducible exact Below.refl _ _) | (with_reducible assumption) | (with_reducible refine Below.alloc ?_ ?_ _) | (with_reducible refine Below.drew ?_) | (with_reducible refine belowDrewN ?_ _) | (with_reducible refine Below.setCell ?_ ?_ _) | (with_reducible refine Below.via (by with_reducible assumption) ?_ ?_) | (with_reducible exact Below.size (by with_reducible assumption)) | go_size | (with_reducible refine Nat.le_trans ?_ (Below.size (by with_reducible assumption))) | (with_reducible refine Nat.le_trans ?_ (sizeAlloc _ _)) | (with_reducible refine Nat.le_trans ?_ (sizeSet _ _ _)) | (with_reducible refine Nat.le_trans ?_ (sizeDrew _))))⟩
      case pos =>
        subst hmm
        go_wp2_with fail
        go_loop [31] (fun i => ∃ t : Nat, t ≤ m1 ∧ i = .int .i64 t ∧ Hid (∀ j, j < t → inB (l.getD j 0) 0 3000 = true)) (fun i => m1 - (intOf i).toNat)
        case atStart => exact ⟨0, Nat.zero_le _, rfl, fun j hj => absurd hj (by omega)⟩
        case round =>
          obtain ⟨t, ht, rfl, hpre2⟩ := hrel
          by_cases hlt2 : t < m1
          · obtain ⟨b2, off2, z, rfl, hb2, HZ, hc2⟩ := HSL.out.int hlt2
            cases q : inB z 0 3000
            case false =>
              have hE : Hid (mgR pss n = ([], 1)) := mgR_bad HPL.out hlt (by rw [HM.out, HL.out]; exact mgOk1_f2 (t := t) (by rw [HLM.out]; exact hlt2) (by rw [HZ.out]; exact q))
              obtain ⟨rfl, rfl⟩ := pairI (HR.out.symm.trans hE.out)
              go_wp2_with (go_at_call 54; refine (between_any _ _ _ _).mono ?_; rintro e w_ ⟨rfl, rfl⟩)
              go_ret2
              exact ⟨none, w.heap.size, 0, 0, rfl, Nat.le_refl _, own_none _ _ _ _ _, by omega, by (repeat' (first | (with_reducible exact Below.refl _ _) | (with_reducible assumption) | (with_reducible refine Below.alloc ?_ ?_ _) | (with_reducible refine Below.drew ?_) | (with_reducible refine belowDrewN ?_ _) | (with_reducible refine Below.setCell ?_ ?_ _) | (with_reducible refine Below.via (by with_reducible assumption) ?_ ?_) | (with_reducible exact Below.size (by with_reducible assumption)) | go_size | (with_reducible refine Nat.le_trans ?_ (Below.size (by with_reducible assumption))) | (with_reducible refine Nat.le_trans ?_ (sizeAlloc _ _)) | (with_reducible refine Nat.le_trans ?_ (sizeSet _ _ _)) | (with_reducible refine Nat.le_trans ?_ (sizeDrew _))))⟩
            case true =>
              have HQ := Lib.hid q
              go_wp2_with (go_at_call 54; refine (between_any _ _ _ _).mono ?_; rintro e w_ ⟨rfl, rfl⟩)
              go_round
              case rel =>
                refine ⟨t + 1, by omega, by go_num, fun j hj => ?_⟩
                rcases Nat.lt_or_ge j t with h | h
                · exact hpre2.out j h
                · obtain rfl : j = t := by omega
                  rw [HZ.out]; exact HQ.out
              case measure => first | (simp [intOf]; done) | (simp [intOf]; omega)
          · obtain rfl : t = m1 := by omega
            go_wp2_with fail
            go_round
            case rel =>
              refine ⟨_, _, _, _, .int .i64 ((k + 1 : Nat) : Int), ⟨k + 1, by omega, rfl, fun j hj => ?_⟩, rfl, rfl, rfl, rfl, by go_num⟩
              rcases Nat.lt_or_ge j k with h | h
              · exact hpre.out j h
              · obtain rfl : j = k := by omega
                show mgOk1 _ (pss.getD j []) = true
                rw [HL.out]; exact mgOk1_t HLM.out hpre2.out
            case measure => first | (simp [intOf]; done) | (simp [intOf]; omega)
    · obtain rfl : k = n := by omega
      have hE : Hid (mgR pss k = (rowMix pss m k 0, 0)) := by
        have h5 := mgR_good HPL.out hn0 (by rw [HM.out]; exact hpre.out)
        rwa [HM.out] at h5
      obtain ⟨rfl, rfl⟩ := pairI (HR.out.symm.trans hE.out)
      clear hE
      go_wp2_with fail
      go_loopw [47] (fun i wr => ∃ t : Nat, t ≤ k ∧ i = .int .i64 t ∧ Blk wr w.heap.size 2 ((rowMix pss m t 0).map (Value.int .i64)).toArray ∧ Below w.heap.size w wr) (fun i _ => k - (intOf i).toNat)
      case atStart =>
        refine ⟨0, Nat.zero_le _, rfl, ?_, by (repeat' (first | (with_reducible exact Below.refl _ _) | (with_reducible assumption) | (with_reducible refine Below.alloc ?_ ?_ _) | (with_reducible refine Below.drew ?_) | (with_reducible refine belowDrewN ?_ _) | (with_reducible refine Below.setCell ?_ ?_ _) | (with_reducible refine Below.via (by with_reducible assumption) ?_ ?_) | (with_reducible exact Below.size (by with_reducible assumption)) | go_size | (with_reducible refine Nat.le_trans ?_ (Below.size (by with_reducible assumption))) | (with_reducible refine Nat.le_trans ?_ (sizeAlloc _ _)) | (with_reducible refine Nat.le_trans ?_ (sizeSet _ _ _)) | (with_reducible refine Nat.le_trans ?_ (sizeDrew _))))⟩
        rw [rowMix_zero, List.map_replicate, ← made_one]
        exact Blk.new _ _ _
      case round =>
        obtain ⟨t, ht, rfl, hblk, hbl⟩ := hrel
        by_cases hlt : t < k
        · obtain ⟨b', off', l, B1, m1, c1, e, hb', HL, hc1, hsl, _⟩ := (HS.out.below hbl).row hlt
          injection e with e
          injection e with e1 e2 _
          subst e1 e2
          have HX := Lib.hid (mgOk1_of (hpre.out t hlt))
          obtain rfl : m1 = m := by rw [← hsl.ints, ← HL.out]; exact HX.out.1
          have HB0 := Lib.hid hblk
          have HBL := Lib.hid hbl
          have hwr := hbl.size
          have HSW : Hid (Sl w w.heap.size 1 B1 m1 (l.map (Value.int .i64))) := by
            obtain ⟨_, _, l2, B2, m2, c2, e, _, HL2, hc2, hsl2, _⟩ := HS.out.row hlt
            injection e with e
            injection e with e1 e2 _
            subst e1 e2
            have h7 := hbl.cell (p := ⟨b, off + t, none⟩) hb'
            rw [hc1, hc2] at h7
            injection h7 with h7
            injection h7 with h71 h72 _
            subst h71 h72
            rw [← HL.out, HL2.out]
            exact hsl2
          clear hblk hsl hbl
          go_wp2_with fail
          go_loopw [53] (fun i wr => ∃ s : Nat, s ≤ m1 ∧ i = .int .i64 s ∧ Blk wr w.heap.size 2 ((rowMix pss m1 t s).map (Value.int .i64)).toArray ∧ Below w.heap.size w wr) (fun i _ => m1 - (intOf i).toNat)
          case atStart => exact ⟨0, Nat.zero_le _, rfl, HB0.out, HBL.out⟩
          case round =>
            obtain ⟨s, hs, rfl, hblk, hbl⟩ := hrel
            by_cases hlt2 : s < m1
            · obtain ⟨b2, off2, z, rfl, hb2, HZ, hc2⟩ := (HSW.out.below hbl).int hlt2
              have hv := (hblk.cell s).trans (arrI_get (by rw [rowMix_len]; exact hlt2))
              rw [rowMix_at pss hlt2, if_neg (by omega)] at hv
              have hfr := hblk.free s
              have hgl := hblk.lt
              obtain ⟨v1, v2⟩ := colSum_bd (pss := pss) (m := m1) (k := t) (t := s) (fun j hj => hpre.out j (by omega)) hlt2
              have hzb := HX.out.2 s hlt2
              rw [HL.out, HZ.out] at hzb
              obtain ⟨z1, z2⟩ := hzb
              have hset := rowMix_set pss (k := t) hlt2
              have hcs : colSum pss (t + 1) s = colSum pss t s + z := by rw [colSum, HL.out, HZ.out]
              rw [hcs] at hset
              revert hset hv v1 v2
              generalize colSum pss t s = v
              intro hv v1 v2 hset
              have HSET := Lib.hid hset
              have HB := Lib.hid hblk
              clear hset hblk hcs
              go_wp2_with fail
              go_roundw
              case rel => exact ⟨s + 1, by omega, by go_num, by rw [← HSET.out, ← arrI_set]; exact HB.out.set s _, by (repeat' (first | (with_reducible exact Below.refl _ _) | (with_reducible assumption) | (with_reducible refine Below.alloc ?_ ?_ _) | (with_reducible refine Below.drew ?_) | (with_reducible refine belowDrewN ?_ _) | (with_reducible refine Below.setCell ?_ ?_ _) | (with_reducible refine Below.via (by with_reducible assumption) ?_ ?_) | (with_reducible exact Below.size (by with_reducible assumption)) | go_size | (with_reducible refine Nat.le_trans ?_ (Below.size (by with_reducible assumption))) | (with_reducible refine Nat.le_trans ?_ (sizeAlloc _ _)) | (with_reducible refine Nat.le_trans ?_ (sizeSet _ _ _)) | (with_reducible refine Nat.le_trans ?_ (sizeDrew _))))⟩
              case measure => first | (simp [intOf]; done) | (simp [intOf]; omega)
            · obtain rfl : s = m1 := by omega
              go_wp2_with fail
              go_roundw
              case rel => exact ⟨t + 1, by omega, by go_num, by rw [← rowMix_full]; exact hblk, by (repeat' (first | (with_reducible exact Below.refl _ _) | (with_reducible assumption) | (with_reducible refine Below.alloc ?_ ?_ _) | (with_reducible refine Below.drew ?_) | (with_reducible refine belowDrewN ?_ _) | (with_reducible refine Below.setCell ?_ ?_ _) | (with_reducible refine Below.via (by with_reducible assumption) ?_ ?_) | (with_reducible exact Below.size (by with_reducible assumption)) | go_size | (with_reducible refine Nat.le_trans ?_ (Below.size (by with_reducible assumption))) | (with_reducible refine Nat.le_trans ?_ (sizeAlloc _ _)) | (with_reducible refine Nat.le_trans ?_ (sizeSet _ _ _)) | (with_reducible refine Nat.le_trans ?_ (sizeDrew _))))⟩
              case measure => first | (simp [intOf]; done) | (simp [intOf]; omega)
        · obtain rfl : t = k := by omega
          go_wp2_with fail
          go_ret2
          exact ⟨_, _, m, m, rfl, by (repeat' (first | (with_reducible exact Below.refl _ _) | (with_reducible assumption) | (with_reducible refine Below.alloc ?_ ?_ _) | (with_reducible refine Below.drew ?_) | (with_reducible refine belowDrewN ?_ _) | (with_reducible refine Below.setCell ?_ ?_ _) | (with_reducible refine Below.via (by with_reducible assumption) ?_ ?_) | (with_reducible exact Below.size (by with_reducible assumption)) | go_size | (with_reducible refine Nat.le_trans ?_ (Below.size (by with_reducible assumption))) | (with_reducible refine Nat.le_trans ?_ (sizeAlloc _ _)) | (with_reducible refine Nat.le_trans ?_ (sizeSet _ _ _)) | (with_reducible refine Nat.le_trans ?_ (sizeDrew _)))), own_blk hblk (rowMix_len _ _ _ _), hm2, by (repeat' (first | (with_reducible exact Below.refl _ _) | (with_reducible assumption) | (with_reducible refine Below.alloc ?_ ?_ _) | (with_reducible refine Below.drew ?_) | (with_reducible refine belowDrewN ?_ _) | (with_reducible refine Below.setCell ?_ ?_ _) | (with_reducible refine Below.via (by with_reducible assumption) ?_ ?_) | (with_reducible exact Below.size (by with_reducible assumption)) | go_size | (with_reducible refine Nat.le_trans ?_ (Below.size (by with_reducible assumption))) | (with_reducible refine Nat.le_trans ?_ (sizeAlloc _ _)) | (with_reducible refine Nat.le_trans ?_ (sizeSet _ _ _)) | (with_reducible refine Nat.le_trans ?_ (sizeDrew _))))⟩
end Go.Proofs.Ytdndhbgompmmeaa
