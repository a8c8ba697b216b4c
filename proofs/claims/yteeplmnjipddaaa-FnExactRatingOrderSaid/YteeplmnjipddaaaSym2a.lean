/- Go's stable sort at this seat: a merge whose left part is one element. Conditions: elements of one cell, at most 1000000. -/
import Derived.Test.YteeplmnjipddaaaSym2
import Derived.Deep.DeepCutAuto
namespace Go.Proofs.Yteeplmnjipddaaa
set_option linter.unusedSimpArgs false
set_option linter.unusedVariables false
open Go.Shelf Go.RowKit Go.Lib Go.Sort

set_option maxRecDepth 100000 in
set_option maxHeartbeats 1600000 in
theorem symMerge_a {α : Type} [Inhabited α] {gl : Nat} {lb : Array Value} {sf : Nat} {sb : Array Value} {enc : α → Value} {lt lt2 : α → α → Bool} {ap : α → α → Prop} {blk off n : Nat} {w0 : World} (S : Srt Try.prog gl lb sf sb enc lt blk off n w0) (hO : SWO lt2) (hap : ∀ x y, ap x y → lt y x = lt2 y x) (a m b : Nat) (d : Array α) (W : World) (ham : a < m) (hmb : m < b) (hbn : b ≤ n) (hd : d.size = n) (hSW : SW enc w0 blk off d W) (hP : Pre lt2 ap a m b d) (hone : m - a = 1) :
    Calls Try.prog 83 #[.agg #[.func (.func gl) #[] lb, .func (.func sf) #[] sb], .int .i64 a, .int .i64 m, .int .i64 b] W (SymQ enc lt2 blk off n a b w0 d W) := by
  have HS := Lib.hid S
  have HW := Lib.hid (hSW.alloc (.cells #[.func (.func gl) #[] lb, .func (.func sf) #[] sb] 93))
  have HD := Lib.hid hd
  have HP := Lib.hid hP
  have HO := Lib.hid hO
  have HAP : Hid (∀ i j, a ≤ i → i < m → m ≤ j → j < b → lt d[j]! d[i]! = lt2 d[j]! d[i]!) := fun i j h1 h2 h3 h4 => hap _ _ (hP.x i j h1 h2 h3 h4)
  have hn := S.n40
  have eg := S.eg
  have hne : W.heap.size ≠ blk := by have := hSW.lt S.hblk; omega
  have HNE := Lib.hid hne
  have hw1 : IntKind.i64.wrap ((m : Int) - (a : Int)) = ((m - a : Nat) : Int) := by rw [IntWalk.i64_in _ (by omega)]; omega
  have hw2 : IntKind.i64.wrap ((b : Int) - (m : Int)) = ((b - m : Nat) : Int) := by rw [IntWalk.i64_in _ (by omega)]; omega
  clear S hO hap hSW hd hP hne
  have hq1 : (((m - a : Nat) : Int) == 1) = true := by rw [beq_iff_eq]; omega
  have hma : m = a + 1 := by omega
  have HMA := Lib.hid hma
  clear hone hma
  go_enter Try.func83, Try.ntmps83
  go_wp2
  go_loopw [8, 9] (fun v u wr => ∃ i j : Nat, m ≤ i ∧ i ≤ j ∧ j ≤ b ∧ v = .int .i64 i ∧ u = .int .i64 j ∧ Hid ((m < i → lt2 d[i - 1]! d[a]! = true) ∧ (j < b → lt2 d[j]! d[a]! = false)) ∧ KpB blk (W.alloc (.cells #[.func (.func gl) #[] lb, .func (.func sf) #[] sb] 93)) wr ∧ SW enc w0 blk off d wr) (fun v u _ => (intOf u).toNat - (intOf v).toNat)
  case atStart => exact ⟨m, b, Nat.le_refl _, by omega, Nat.le_refl _, rfl, rfl, ⟨fun h => absurd h (by omega), fun h => absurd h (by omega)⟩, KpB.refl _ _, HW.out⟩
  case round =>
    obtain ⟨i, j, hmi, hij, hjb, rfl, rfl, hcc, hk, hsw⟩ := hrel
    rename World => wo
    have HSW := Lib.hid hsw
    have HK := Lib.hid hk
    have c0 : wo.cell? ⟨W.heap.size, 0, none⟩ = some (.func (.func gl) #[] lb) := (hk.1 _ _ (by simp) HNE.out).trans (by simp)
    have c1 : wo.cell? ⟨W.heap.size, 1, none⟩ = some (.func (.func sf) #[] sb) := (hk.1 _ _ (by simp) HNE.out).trans (by simp)
    clear hk hsw
    by_cases hlt : i < j
    · obtain ⟨h, hh⟩ : ∃ h, (i + j) / 2 = h := ⟨_, rfl⟩
      obtain ⟨m1, m2, m3⟩ := mid_w (by omega) hh
      have hih : i ≤ h := by omega
      have hhj : h < j := by omega
      have hl := HS.out.lessAt HSW.out HD.out (show h < n by omega) (show a < n by omega)
      rw [HAP.out a h (Nat.le_refl _) ham (by omega) (by omega)] at hl
      clear hh
      cases hlv : lt2 d[h]! d[a]!
      case true =>
        rw [hlv] at hl
        have HLV := Lib.hid hlv
        clear hlv
        go_wp2_with (go_at_fn gl; refine hl.mono ?_; rintro e w' ⟨rfl, q, rfl⟩)
        go_roundw
        case rel => exact ⟨h + 1, j, by omega, by omega, hjb, by go_num, rfl, ⟨fun _ => HLV.out, hcc.out.2⟩, HK.out.drewN q, HSW.out.drewN q⟩
        case measure => simp [intOf]; omega
      case false =>
        rw [hlv] at hl
        have HLV := Lib.hid hlv
        clear hlv
        go_wp2_with (go_at_fn gl; refine hl.mono ?_; rintro e w' ⟨rfl, q, rfl⟩)
        go_roundw
        case rel => exact ⟨i, h, hmi, hih, by omega, rfl, rfl, ⟨hcc.out.1, fun _ => HLV.out⟩, HK.out.drewN q, HSW.out.drewN q⟩
        case measure => simp [intOf]; omega
    · obtain rfl : j = i := by omega
      have hwi : IntKind.i64.wrap ((j : Int) - 1) = ((j - 1 : Nat) : Int) := by rw [IntWalk.i64_in _ (by omega)]; omega
      clear c0 c1
      go_wp2
      go_loopw [11] (fun v wr => ∃ (k : Nat) (d' : Array α), a ≤ k ∧ k ≤ j - 1 ∧ v = .int .i64 k ∧ KpB blk (W.alloc (.cells #[.func (.func gl) #[] lb, .func (.func sf) #[] sb] 93)) wr ∧ SW enc w0 blk off d' wr ∧ d'.size = n ∧ ShR a k d d' ∧ PermIn a b d d') (fun v _ => b - (intOf v).toNat)
      case atStart => exact ⟨a, d, Nat.le_refl _, by omega, rfl, HK.out, HSW.out, HD.out, ShR.zero _ _, permIn_refl _ _ _⟩
      case round =>
        obtain ⟨k, d', hak, hkj, rfl, hk, hsw, hd', hx, hp⟩ := hrel
        rename World => wp
        have HX := Lib.hid (And.intro hsw (And.intro hd' (And.intro hx hp)))
        have HK2 := Lib.hid hk
        have c1 : wp.cell? ⟨W.heap.size, 1, none⟩ = some (.func (.func sf) #[] sb) := (hk.1 _ _ (by simp) HNE.out).trans (by simp)
        clear hk hsw hd' hx hp
        by_cases hlt2 : k < j - 1
        · obtain ⟨W', hs, hsw', hkp'⟩ := HS.out.swapAt HX.out.1 HX.out.2.1 (show k < n by omega) (show k + 1 < n by omega)
          rw [show ((k + 1 : Nat) : Int) = (k : Int) + 1 from rfl] at hs
          have H2 := Lib.hid (And.intro hsw' hkp')
          have hwk : IntKind.i64.wrap ((k : Int) + 1) = (k : Int) + 1 := IntWalk.i64_in _ (by omega)
          clear hsw' hkp'
          go_wp2
          go_roundw
          case rel =>
            have h := HX.out
            exact ⟨k + 1, swp d' k (k + 1), by omega, by omega, by go_num, HK2.out.trans H2.out.2, H2.out.1, by rw [size_swp]; exact h.2.1, h.2.2.1.step hak (by omega),
              permIn_trans _ _ _ _ _ h.2.2.2 (swp_permIn d' a b k (k + 1) (by omega) (by omega) (by omega) (by omega) (by omega))⟩
          case measure => first | (simp [intOf]; done) | (simp [intOf]; omega)
        · obtain rfl : k = j - 1 := by omega
          go_wp2
          go_end0
          have h := HX.out
          have hP := HP.out
          refine ⟨rfl, ((KpB.refl blk W).alloc _).trans HK2.out, d', h.1, h.2.1, h.2.2.2, ?_⟩
          have hma := HMA.out
          subst hma
          exact one_left HO.out hP hmi hjb (fun h1 => hcc.out.1 h1) (fun h1 => hcc.out.2 h1) (fun x h1 h2 => h.2.2.1.lo x h1 h2) h.2.2.1.at_ (fun x h1 => h.2.2.1.o x (by omega))
end Go.Proofs.Yteeplmnjipddaaa
