/- Valid matches: both functions over a list. No conditions beyond lengths. -/
import Derived.Test.YtlogcbiebpfmlaaMatch1
namespace Go.Proofs.Ytlogcbiebpfmlaa
set_option linter.unusedSimpArgs false
set_option linter.unusedVariables false
open Go.RowKit

set_option maxHeartbeats 1000000 in
theorem l26Ok_any (n : Int) (A : Option Addr) (c cp : Nat) (vs : List Value) (w : World) (hs : Sl w w.heap.size 4 A c vs) (ht : TypMatch vs c) (hc : c ≤ 9223372036854775807) :
    Calls Try.prog 18 #[.int .i64 n, .slice A c cp] w fun e w' => e = .returned (.bool (validMs n vs)) ∧ Below w.heap.size w w' := by
  have HL := Lib.hid hs.len
  have HT := Lib.hid ht
  clear ht
  cases q0 : inB n 2 12
  case false =>
    have HE := Lib.hid (validMs_n (vs := vs) q0)
    go_enter Try.func18, Try.ntmps18
    go_wp2_with (go_at_call 30; refine (l24Players_any _ _).mono ?_; rintro e w_ ⟨rfl, rfl⟩)
    go_ret
    exact ⟨by rw [HE.out]; rfl, by (repeat' (first | (with_reducible exact Below.refl _ _) | (with_reducible assumption) | (with_reducible refine Below.alloc ?_ ?_ _) | (with_reducible refine Below.drew ?_) | (with_reducible refine belowDrewN ?_ _) | (with_reducible refine Below.setCell ?_ ?_ _) | (with_reducible refine Below.via (by with_reducible assumption) ?_ ?_) | (with_reducible refine Below.viaD (by with_reducible assumption) ?_ ?_) | (with_reducible exact Below.size (by with_reducible assumption)) | go_size | (with_reducible refine Nat.le_trans ?_ (Below.size (by with_reducible assumption))) | (with_reducible refine Nat.le_trans ?_ (sizeAlloc _ _)) | (with_reducible refine Nat.le_trans ?_ (sizeSet _ _ _)) | (with_reducible refine Nat.le_trans ?_ (sizeDrew _))))⟩
  case true =>
    have Q0 := Lib.hid q0
    by_cases h150 : 150 < c
    case pos =>
      have HE : Hid (validMs n vs = false) := validMs_len (by rw [HL.out]; omega)
      go_enter Try.func18, Try.ntmps18
      go_wp2_with (go_at_call 30; refine (l24Players_any _ _).mono ?_; rintro e w_ ⟨rfl, rfl⟩)
      go_ret
      exact ⟨by rw [HE.out]; rfl, by (repeat' (first | (with_reducible exact Below.refl _ _) | (with_reducible assumption) | (with_reducible refine Below.alloc ?_ ?_ _) | (with_reducible refine Below.drew ?_) | (with_reducible refine belowDrewN ?_ _) | (with_reducible refine Below.setCell ?_ ?_ _) | (with_reducible refine Below.via (by with_reducible assumption) ?_ ?_) | (with_reducible refine Below.viaD (by with_reducible assumption) ?_ ?_) | (with_reducible exact Below.size (by with_reducible assumption)) | go_size | (with_reducible refine Nat.le_trans ?_ (Below.size (by with_reducible assumption))) | (with_reducible refine Nat.le_trans ?_ (sizeAlloc _ _)) | (with_reducible refine Nat.le_trans ?_ (sizeSet _ _ _)) | (with_reducible refine Nat.le_trans ?_ (sizeDrew _))))⟩
    case neg =>
      have h150' : c ≤ 150 := by omega
      clear h150
      go_enter Try.func18, Try.ntmps18
      go_wp2_with (go_at_call 30; refine (l24Players_any _ _).mono ?_; rintro e w_ ⟨rfl, rfl⟩)
      go_loopw [5] (fun i wr => ∃ k : Nat, k ≤ c ∧ i = .int .i64 k ∧ Hid (∀ j, j < k → okAt (wrap64 (n - 1)) vs j = true) ∧ Below w.heap.size w wr) (fun i _ => c - (intOf i).toNat)
      case atStart => exact ⟨0, Nat.zero_le _, rfl, fun j hj => absurd hj (by omega), Below.refl _ _⟩
      case round =>
        obtain ⟨k, hk, rfl, hpre, hbl⟩ := hrel
        by_cases hlt : k < c
        · obtain ⟨b, off, rfl, hb, hl, hcc⟩ := (hs.below hbl).cellV hlt
          obtain ⟨a0, a1, a2, a3, v0, v1, v2, v3⟩ := HT.out k hlt
          have hc0 := hcc 0 _ (by omega) (by simpa using v0)
          have hc1 := hcc 1 _ (by omega) (by simpa using v1)
          have hc2 := hcc 2 _ (by omega) (by simpa using v2)
          rw [Nat.add_zero] at hc0
          rw [← Nat.add_assoc] at hc1 hc2
          have hmt : okAt (wrap64 (n - 1)) vs k = mOk (wrap64 (n - 1)) a0 a1 a2 := by rw [okAt, intAt_eq v0, intAt_eq v1, intAt_eq v2]
          have HM := Lib.hid hmt
          have HL2 : Hid (k < vs.length / 4) := by unfold Hid; rw [hl]; omega
          clear hcc hl hmt v0 v1 v2 v3
          cases q : mOk (wrap64 (n - 1)) a0 a1 a2
          case false =>
            have HE : Hid (validMs n vs = false) := validMs_at HL2.out (by rw [HM.out, q])
            go_wp2_with (go_at_call 31; refine (l26Match_any n _ a0 a1 a2 b (off + k * 4) _ rfl hc0 hc1 hc2).mono ?_; rintro e w1 ⟨rfl, hb1⟩; obtain ⟨hc1, hf1, hl1, hz1⟩ := bfacts hb1; (try simp only [World.size_alloc, World.size_setCell, World.size_drew] at hz1))
            go_ret
            exact ⟨by rw [HE.out]; rfl, by (repeat' (first | (with_reducible exact Below.refl _ _) | (with_reducible assumption) | (with_reducible refine Below.alloc ?_ ?_ _) | (with_reducible refine Below.drew ?_) | (with_reducible refine belowDrewN ?_ _) | (with_reducible refine Below.setCell ?_ ?_ _) | (with_reducible refine Below.via (by with_reducible assumption) ?_ ?_) | (with_reducible refine Below.viaD (by with_reducible assumption) ?_ ?_) | (with_reducible exact Below.size (by with_reducible assumption)) | go_size | (with_reducible refine Nat.le_trans ?_ (Below.size (by with_reducible assumption))) | (with_reducible refine Nat.le_trans ?_ (sizeAlloc _ _)) | (with_reducible refine Nat.le_trans ?_ (sizeSet _ _ _)) | (with_reducible refine Nat.le_trans ?_ (sizeDrew _))))⟩
          case true =>
            have HX : Hid (okAt (wrap64 (n - 1)) vs k = true) := by unfold Hid; rw [HM.out, q]
            go_wp2_with (go_at_call 31; refine (l26Match_any n _ a0 a1 a2 b (off + k * 4) _ rfl hc0 hc1 hc2).mono ?_; rintro e w1 ⟨rfl, hb1⟩; obtain ⟨hc1, hf1, hl1, hz1⟩ := bfacts hb1; (try simp only [World.size_alloc, World.size_setCell, World.size_drew] at hz1))
            go_roundw
            case rel =>
              refine ⟨k + 1, by omega, by go_num, fun j hj => ?_, by (repeat' (first | (with_reducible exact Below.refl _ _) | (with_reducible assumption) | (with_reducible refine Below.alloc ?_ ?_ _) | (with_reducible refine Below.drew ?_) | (with_reducible refine belowDrewN ?_ _) | (with_reducible refine Below.setCell ?_ ?_ _) | (with_reducible refine Below.via (by with_reducible assumption) ?_ ?_) | (with_reducible refine Below.viaD (by with_reducible assumption) ?_ ?_) | (with_reducible exact Below.size (by with_reducible assumption)) | go_size | (with_reducible refine Nat.le_trans ?_ (Below.size (by with_reducible assumption))) | (with_reducible refine Nat.le_trans ?_ (sizeAlloc _ _)) | (with_reducible refine Nat.le_trans ?_ (sizeSet _ _ _)) | (with_reducible refine Nat.le_trans ?_ (sizeDrew _))))⟩
              rcases Nat.lt_or_ge j k with h | h
              · exact hpre.out j h
              · obtain rfl : j = k := by omega
                exact HX.out
            case measure => first | (simp [intOf]; done) | (simp [intOf]; omega)
        · obtain rfl : k = c := by omega
          have HF : Hid (validMs n vs = true) := validMs_t HL.out h150' Q0.out hpre.out
          go_wp2_with fail
          go_ret
          exact ⟨by rw [HF.out]; rfl, by (repeat' (first | (with_reducible exact Below.refl _ _) | (with_reducible assumption) | (with_reducible refine Below.alloc ?_ ?_ _) | (with_reducible refine Below.drew ?_) | (with_reducible refine belowDrewN ?_ _) | (with_reducible refine Below.setCell ?_ ?_ _) | (with_reducible refine Below.via (by with_reducible assumption) ?_ ?_) | (with_reducible refine Below.viaD (by with_reducible assumption) ?_ ?_) | (with_reducible exact Below.size (by with_reducible assumption)) | go_size | (with_reducible refine Nat.le_trans ?_ (Below.size (by with_reducible assumption))) | (with_reducible refine Nat.le_trans ?_ (sizeAlloc _ _)) | (with_reducible refine Nat.le_trans ?_ (sizeSet _ _ _)) | (with_reducible refine Nat.le_trans ?_ (sizeDrew _))))⟩
set_option maxHeartbeats 1000000 in
theorem ValidMatches_any (n : Int) (A : Option Addr) (c cp : Nat) (vs : List Value) (w : World) (hs : Sl w w.heap.size 4 A c vs) (ht : TypMatch vs c) (hc : c ≤ 9223372036854775807) :
    Calls Try.prog 15 #[.int .i64 n, .slice A c cp] w fun e w' => e = .returned (.bool (validMs n vs)) ∧ Below w.heap.size w w' := by
  have HL := Lib.hid hs.len
  have HT := Lib.hid ht
  clear ht
  cases q0 : inB n 2 12
  case false =>
    have HE := Lib.hid (validMs_n (vs := vs) q0)
    go_enter Try.func15, Try.ntmps15
    go_wp2_with (go_at_call 26; refine (isCount_any _ _).mono ?_; rintro e w_ ⟨rfl, rfl⟩)
    go_ret
    exact ⟨by rw [HE.out]; rfl, by (repeat' (first | (with_reducible exact Below.refl _ _) | (with_reducible assumption) | (with_reducible refine Below.alloc ?_ ?_ _) | (with_reducible refine Below.drew ?_) | (with_reducible refine belowDrewN ?_ _) | (with_reducible refine Below.setCell ?_ ?_ _) | (with_reducible refine Below.via (by with_reducible assumption) ?_ ?_) | (with_reducible refine Below.viaD (by with_reducible assumption) ?_ ?_) | (with_reducible exact Below.size (by with_reducible assumption)) | go_size | (with_reducible refine Nat.le_trans ?_ (Below.size (by with_reducible assumption))) | (with_reducible refine Nat.le_trans ?_ (sizeAlloc _ _)) | (with_reducible refine Nat.le_trans ?_ (sizeSet _ _ _)) | (with_reducible refine Nat.le_trans ?_ (sizeDrew _))))⟩
  case true =>
    have Q0 := Lib.hid q0
    by_cases h150 : 150 < c
    case pos =>
      have HE : Hid (validMs n vs = false) := validMs_len (by rw [HL.out]; omega)
      go_enter Try.func15, Try.ntmps15
      go_wp2_with (go_at_call 26; refine (isCount_any _ _).mono ?_; rintro e w_ ⟨rfl, rfl⟩)
      go_ret
      exact ⟨by rw [HE.out]; rfl, by (repeat' (first | (with_reducible exact Below.refl _ _) | (with_reducible assumption) | (with_reducible refine Below.alloc ?_ ?_ _) | (with_reducible refine Below.drew ?_) | (with_reducible refine belowDrewN ?_ _) | (with_reducible refine Below.setCell ?_ ?_ _) | (with_reducible refine Below.via (by with_reducible assumption) ?_ ?_) | (with_reducible refine Below.viaD (by with_reducible assumption) ?_ ?_) | (with_reducible exact Below.size (by with_reducible assumption)) | go_size | (with_reducible refine Nat.le_trans ?_ (Below.size (by with_reducible assumption))) | (with_reducible refine Nat.le_trans ?_ (sizeAlloc _ _)) | (with_reducible refine Nat.le_trans ?_ (sizeSet _ _ _)) | (with_reducible refine Nat.le_trans ?_ (sizeDrew _))))⟩
    case neg =>
      have h150' : c ≤ 150 := by omega
      clear h150
      go_enter Try.func15, Try.ntmps15
      go_wp2_with (go_at_call 26; refine (isCount_any _ _).mono ?_; rintro e w_ ⟨rfl, rfl⟩)
      go_loopw [17] (fun i wr => ∃ k : Nat, k ≤ c ∧ i = .int .i64 k ∧ Hid (∀ j, j < k → okAt (wrap64 (n - 1)) vs j = true) ∧ Below w.heap.size w wr) (fun i _ => c - (intOf i).toNat)
      case atStart => exact ⟨0, Nat.zero_le _, rfl, fun j hj => absurd hj (by omega), Below.refl _ _⟩
      case round =>
        obtain ⟨k, hk, rfl, hpre, hbl⟩ := hrel
        by_cases hlt : k < c
        · obtain ⟨b, off, rfl, hb, hl, hcc⟩ := (hs.below hbl).cellV hlt
          obtain ⟨a0, a1, a2, a3, v0, v1, v2, v3⟩ := HT.out k hlt
          have hc0 := hcc 0 _ (by omega) (by simpa using v0)
          have hc1 := hcc 1 _ (by omega) (by simpa using v1)
          have hc2 := hcc 2 _ (by omega) (by simpa using v2)
          have hc3 := hcc 3 _ (by omega) (by simpa using v3)
          rw [Nat.add_zero] at hc0
          rw [← Nat.add_assoc] at hc1 hc2 hc3
          have hmt : okAt (wrap64 (n - 1)) vs k = mOk (wrap64 (n - 1)) a0 a1 a2 := by rw [okAt, intAt_eq v0, intAt_eq v1, intAt_eq v2]
          have HM := Lib.hid hmt
          have HL2 : Hid (k < vs.length / 4) := by unfold Hid; rw [hl]; omega
          clear hcc hl hmt v0 v1 v2 v3
          cases q : mOk (wrap64 (n - 1)) a0 a1 a2
          case false =>
            have HE : Hid (validMs n vs = false) := validMs_at HL2.out (by rw [HM.out, q])
            go_wp2_with (go_at_call 27; refine (validMatch_any n _ a0 a1 a2 a3 _ rfl).mono ?_; rintro e w1 ⟨rfl, hb1⟩; obtain ⟨hc1, hf1, hl1, hz1⟩ := bfacts hb1; (try simp only [World.size_alloc, World.size_setCell, World.size_drew] at hz1))
            go_ret
            exact ⟨by rw [HE.out]; rfl, by (repeat' (first | (with_reducible exact Below.refl _ _) | (with_reducible assumption) | (with_reducible refine Below.alloc ?_ ?_ _) | (with_reducible refine Below.drew ?_) | (with_reducible refine belowDrewN ?_ _) | (with_reducible refine Below.setCell ?_ ?_ _) | (with_reducible refine Below.via (by with_reducible assumption) ?_ ?_) | (with_reducible refine Below.viaD (by with_reducible assumption) ?_ ?_) | (with_reducible exact Below.size (by with_reducible assumption)) | go_size | (with_reducible refine Nat.le_trans ?_ (Below.size (by with_reducible assumption))) | (with_reducible refine Nat.le_trans ?_ (sizeAlloc _ _)) | (with_reducible refine Nat.le_trans ?_ (sizeSet _ _ _)) | (with_reducible refine Nat.le_trans ?_ (sizeDrew _))))⟩
          case true =>
            have HX : Hid (okAt (wrap64 (n - 1)) vs k = true) := by unfold Hid; rw [HM.out, q]
            go_wp2_with (go_at_call 27; refine (validMatch_any n _ a0 a1 a2 a3 _ rfl).mono ?_; rintro e w1 ⟨rfl, hb1⟩; obtain ⟨hc1, hf1, hl1, hz1⟩ := bfacts hb1; (try simp only [World.size_alloc, World.size_setCell, World.size_drew] at hz1))
            go_roundw
            case rel =>
              refine ⟨k + 1, by omega, by go_num, fun j hj => ?_, by (repeat' (first | (with_reducible exact Below.refl _ _) | (with_reducible assumption) | (with_reducible refine Below.alloc ?_ ?_ _) | (with_reducible refine Below.drew ?_) | (with_reducible refine belowDrewN ?_ _) | (with_reducible refine Below.setCell ?_ ?_ _) | (with_reducible refine Below.via (by with_reducible assumption) ?_ ?_) | (with_reducible refine Below.viaD (by with_reducible assumption) ?_ ?_) | (with_reducible exact Below.size (by with_reducible assumption)) | go_size | (with_reducible refine Nat.le_trans ?_ (Below.size (by with_reducible assumption))) | (with_reducible refine Nat.le_trans ?_ (sizeAlloc _ _)) | (with_reducible refine Nat.le_trans ?_ (sizeSet _ _ _)) | (with_reducible refine Nat.le_trans ?_ (sizeDrew _))))⟩
              rcases Nat.lt_or_ge j k with h | h
              · exact hpre.out j h
              · obtain rfl : j = k := by omega
                exact HX.out
            case measure => first | (simp [intOf]; done) | (simp [intOf]; omega)
        · obtain rfl : k = c := by omega
          have HF : Hid (validMs n vs = true) := validMs_t HL.out h150' Q0.out hpre.out
          go_wp2_with fail
          go_ret
          exact ⟨by rw [HF.out]; rfl, by (repeat' (first | (with_reducible exact Below.refl _ _) | (with_reducible assumption) | (with_reducible refine Below.alloc ?_ ?_ _) | (with_reducible refine Below.drew ?_) | (with_reducible refine belowDrewN ?_ _) | (with_reducible refine Below.setCell ?_ ?_ _) | (with_reducible refine Below.via (by with_reducible assumption) ?_ ?_) | (with_reducible refine Below.viaD (by with_reducible assumption) ?_ ?_) | (with_reducible exact Below.size (by with_reducible assumption)) | go_size | (with_reducible refine Nat.le_trans ?_ (Below.size (by with_reducible assumption))) | (with_reducible refine Nat.le_trans ?_ (sizeAlloc _ _)) | (with_reducible refine Nat.le_trans ?_ (sizeSet _ _ _)) | (with_reducible refine Nat.le_trans ?_ (sizeDrew _))))⟩
end Go.Proofs.Ytlogcbiebpfmlaa
