/- Go's stable sort at this seat: a merge whose right part is one element. Conditions: elements of one cell, at most 1000000. -/
import Derived.Test.YteeplmnjipddaaaDoorG18
import Derived.Test.YteeplmnjipddaaaDoorG00
import Derived.Deep.DeepCutAuto
/- Go's stable sort at this seat: exchanges and rotations. Conditions: elements of one cell, at most 2^40. -/
namespace Go.Proofs.YteeplmnjipddaaaDoor
set_option linter.unusedSimpArgs false
set_option linter.unusedVariables false
open Go.Shelf Go.RowKit Go.Lib Go.Sort

section
variable {α : Type} [Inhabited α]
/-- What the caller has lies as it lay, the row apart. -/
def KpB (blk : Nat) (W w' : World) : Prop := (∀ b o, b < W.heap.size → b ≠ blk → w'.cell? ⟨b, o, none⟩ = W.cell? ⟨b, o, none⟩) ∧ W.heap.size ≤ w'.heap.size
theorem KpB.refl (blk : Nat) (W : World) : KpB blk W W := ⟨fun _ _ _ _ => rfl, Nat.le_refl _⟩
theorem KpB.trans {blk : Nat} {a b c : World} (h : KpB blk a b) (k : KpB blk b c) : KpB blk a c := ⟨fun x o hx hn => (k.1 x o (Nat.lt_of_lt_of_le hx h.2) hn).trans (h.1 x o hx hn), Nat.le_trans h.2 k.2⟩
theorem KpB.alloc {blk : Nat} {a b : World} (h : KpB blk a b) (o : Obj) : KpB blk a (b.alloc o) := h.trans ⟨fun x k hx _ => by rw [alloc_eq_grow]; exact cell?_grow _ _ _ hx, by rw [alloc_eq_grow, Go.Sort.size_grow]; omega⟩
theorem KpB.drewN {blk : Nat} {a b : World} (h : KpB blk a b) (q : Nat) : KpB blk a (b.drewN q) := ⟨h.1, h.2⟩
theorem KpB.setCell {blk : Nat} {a b : World} (h : KpB blk a b) (o : Nat) (v : Value) : KpB blk a (b.setCell ⟨blk, o, none⟩ v) := h.trans ⟨fun x k _ hn => by
  have e : (b.setCell ⟨blk, o, none⟩ v).heap[x]? = b.heap[x]? := by
    simp only [World.setCell, Array.getElem?_modify]
    rw [if_neg (fun e => hn e.symm)]
  simp only [World.cell?, e], by simp [World.setCell]⟩
/-- What the sort leans on: the order, the exchange, the row. -/
structure Srt (P : Program) (gl : Nat) (lb : Array Value) (sf : Nat) (sb : Array Value) (enc : α → Value) (lt : α → α → Bool) (blk off n : Nat) (w0 : World) : Prop where
  eg : ∀ args w, (callFunc gl args).run P w = .ok (.enter gl args) w
  less : LessReads P gl lb enc lt blk off n w0
  swap : SwapSwaps P sf sb enc blk off n
  hblk : blk < w0.heap.size
  d0 : ∃ d0 : Array α, Holds enc w0 blk off d0 ∧ d0.size = n
  n40 : n ≤ 1000000
section
variable {P : Program} {gl : Nat} {lb : Array Value} {sf : Nat} {sb : Array Value} {enc : α → Value} {lt : α → α → Bool} {blk off n : Nat} {w0 W : World} {d : Array α}
theorem Srt.lessAt (S : Srt P gl lb sf sb enc lt blk off n w0) (h : SW enc w0 blk off d W) (hd : d.size = n) {i j : Nat} (hi : i < n) (hj : j < n) :
    Calls P gl (#[.int .i64 i, .int .i64 j] ++ lb) W fun e w' => e = .returned (.bool (lt d[i]! d[j]!)) ∧ ∃ q, w' = W.drewN q := h.less S.less hd i j hi hj
theorem Srt.swapAt (S : Srt P gl lb sf sb enc lt blk off n w0) (h : SW enc w0 blk off d W) (hd : d.size = n) {i j : Nat} (hi : i < n) (hj : j < n) :
    ∃ W', (callFunc sf (#[.int .i64 i, .int .i64 j] ++ sb)).run P W = .ok (.value (.tuple #[])) W' ∧ SW enc w0 blk off (swp d i j) W' ∧ KpB blk W W' := by
  obtain ⟨d0, h0, hs0⟩ := S.d0
  exact ⟨_, S.swap W d (h.holds S.hblk h0 (by omega)) hd i j hi hj, h.swap S.hblk i j (by omega) (by omega), ((KpB.refl blk W).setCell _ _).setCell _ _⟩
end
set_option maxHeartbeats 1000000 in
theorem swapRange_any {gl : Nat} {lb : Array Value} {sf : Nat} {sb : Array Value} {enc : α → Value} {lt : α → α → Bool} {blk off n : Nat} {w0 : World} (S : Srt Tryd.prog gl lb sf sb enc lt blk off n w0) (a b m : Nat) (d : Array α) (hd : d.size = n) (hab : a + m ≤ b) (hb : b + m ≤ n) (W : World) (hSW : SW enc w0 blk off d W) :
    Calls Tryd.prog 72 #[.agg #[.func (.func gl) #[] lb, .func (.func sf) #[] sb], .int .i64 a, .int .i64 b, .int .i64 m] W fun e w' =>
      e = .returned (.tuple #[]) ∧ KpB blk W w' ∧ ∃ d', SW enc w0 blk off d' w' ∧ d'.size = n ∧ Xch a b m d d' ∧ PermIn a (b + m) d d' := by
  have HS := Lib.hid S
  have HW := Lib.hid (hSW.alloc (.cells #[.func (.func gl) #[] lb, .func (.func sf) #[] sb] 74))
  have HD := Lib.hid hd
  have hn := S.n40
  have hne : W.heap.size ≠ blk := by have := hSW.lt S.hblk; omega
  have HNE := Lib.hid hne
  clear S hSW hd hne
  go_enter Tryd.func72, Tryd.ntmps72
  go_wp2
  go_loopw [8] (fun v wr => ∃ (i : Nat) (d' : Array α), i ≤ m ∧ v = .int .i64 i ∧ KpB blk (W.alloc (.cells #[.func (.func gl) #[] lb, .func (.func sf) #[] sb] 74)) wr ∧ SW enc w0 blk off d' wr ∧ d'.size = n ∧ Xch a b i d d' ∧ PermIn a (b + m) d d') (fun v _ => m - (intOf v).toNat)
  case atStart => exact ⟨0, d, Nat.zero_le _, rfl, KpB.refl _ _, HW.out, HD.out, Xch.zero _ _ _, permIn_refl _ _ _⟩
  case round =>
    obtain ⟨i, d', hi, rfl, hk, hsw, hd', hx, hp⟩ := hrel
    rename World => wo
    have HX := Lib.hid (And.intro hsw (And.intro hd' (And.intro hx hp)))
    have HK := Lib.hid hk
    have c1 : wo.cell? ⟨W.heap.size, 1, none⟩ = some (.func (.func sf) #[] sb) := (hk.1 _ _ (by simp) HNE.out).trans (by simp)
    clear hk hsw hd' hx hp
    by_cases hlt : i < m
    · obtain ⟨W', hs, hsw', hkp'⟩ := HS.out.swapAt HX.out.1 HX.out.2.1 (show a + i < n by omega) (show b + i < n by omega)
      rw [Int.natCast_add, Int.natCast_add] at hs
      have H2 := Lib.hid (And.intro hsw' hkp')
      have hw1 : IntKind.i64.wrap ((a : Int) + (i : Int)) = (a : Int) + (i : Int) := IntWalk.i64_in _ (by omega)
      have hw2 : IntKind.i64.wrap ((b : Int) + (i : Int)) = (b : Int) + (i : Int) := IntWalk.i64_in _ (by omega)
      clear hsw' hkp'
      go_wp2
      go_roundw
      case rel =>
        have h := HX.out
        exact ⟨i + 1, swp d' (a + i) (b + i), by omega, by go_num, HK.out.trans H2.out.2, H2.out.1, by rw [size_swp]; exact h.2.1, h.2.2.1.step hlt hab (by omega),
          permIn_trans _ _ _ _ _ h.2.2.2 (swp_permIn d' a (b + m) (a + i) (b + i) (by omega) (by omega) (by omega) (by omega) (by omega))⟩
      case measure => first | (simp [intOf]; done) | (simp [intOf]; omega)
    · obtain rfl : i = m := by omega
      go_wp2
      go_end0
      exact ⟨rfl, ((KpB.refl blk W).alloc _).trans HK.out, d', HX.out.1, HX.out.2.1, HX.out.2.2.1, HX.out.2.2.2⟩
set_option maxHeartbeats 1000000 in
theorem rotate_any {gl : Nat} {lb : Array Value} {sf : Nat} {sb : Array Value} {enc : α → Value} {lt : α → α → Bool} {blk off n : Nat} {w0 : World} (S : Srt Tryd.prog gl lb sf sb enc lt blk off n w0) (a m b : Nat) (d : Array α) (hd : d.size = n) (ham : a < m) (hmb : m < b) (hb : b ≤ n) (W : World) (hSW : SW enc w0 blk off d W) :
    Calls Tryd.prog 66 #[.agg #[.func (.func gl) #[] lb, .func (.func sf) #[] sb], .int .i64 a, .int .i64 m, .int .i64 b] W fun e w' =>
      e = .returned (.tuple #[]) ∧ KpB blk W w' ∧ ∃ d', SW enc w0 blk off d' w' ∧ d'.size = n ∧ Rot a m b d d' ∧ PermIn a b d d' := by
  have HS := Lib.hid S
  have HW := Lib.hid (hSW.alloc (.cells #[.func (.func gl) #[] lb, .func (.func sf) #[] sb] 74))
  have HD := Lib.hid hd
  have hn := S.n40
  have hne : W.heap.size ≠ blk := by have := hSW.lt S.hblk; omega
  have HNE := Lib.hid hne
  have hw1 : IntKind.i64.wrap ((m : Int) - (a : Int)) = ((m - a : Nat) : Int) := by rw [IntWalk.i64_in _ (by omega)]; omega
  have hw2 : IntKind.i64.wrap ((b : Int) - (m : Int)) = ((b - m : Nat) : Int) := by rw [IntWalk.i64_in _ (by omega)]; omega
  clear S hSW hd hne
  go_enter Tryd.func66, Tryd.ntmps66
  go_wp2
  go_loopw [8, 9] (fun v u wr => ∃ (i j : Nat) (d' : Array α), 0 < i ∧ 0 < j ∧ i ≤ m - a ∧ j ≤ b - m ∧ v = .int .i64 i ∧ u = .int .i64 j ∧ KpB blk (W.alloc (.cells #[.func (.func gl) #[] lb, .func (.func sf) #[] sb] 74)) wr ∧ SW enc w0 blk off d' wr ∧ d'.size = n ∧ (∀ d'', Rot (m - i) m (m + j) d' d'' → Rot a m b d d'') ∧ PermIn a b d d') (fun v u _ => (intOf v).toNat + (intOf u).toNat)
  case atStart => exact ⟨m - a, b - m, d, by omega, by omega, Nat.le_refl _, Nat.le_refl _, rfl, rfl, KpB.refl _ _, HW.out, HD.out, fun d'' h => by rwa [show m - (m - a) = a by omega, show m + (b - m) = b by omega] at h, permIn_refl _ _ _⟩
  case round =>
    obtain ⟨i, j, d', hi0, hj0, hi, hj, rfl, rfl, hk, hsw, hd', hx, hp⟩ := hrel
    rename World => wo
    have HX := Lib.hid (And.intro hsw (And.intro hd' (And.intro hx hp)))
    have HK := Lib.hid hk
    have c0 : wo.cell? ⟨W.heap.size, 0, none⟩ = some (.func (.func gl) #[] lb) := (hk.1 _ _ (by simp) HNE.out).trans (by simp)
    have c1 : wo.cell? ⟨W.heap.size, 1, none⟩ = some (.func (.func sf) #[] sb) := (hk.1 _ _ (by simp) HNE.out).trans (by simp)
    clear hk hsw hd' hx hp
    have hw3 : IntKind.i64.wrap ((m : Int) - (i : Int)) = ((m - i : Nat) : Int) := by rw [IntWalk.i64_in _ (by omega)]; omega
    by_cases heq : i = j
    · subst heq
      go_wp2_with fail
      refine (swapRange_any HS.out (m - i) m i d' HX.out.2.1 (by omega) (by omega) wo HX.out.1).mono ?_
      rintro e w1 ⟨rfl, hk1, d1, hs1, hd1, hx1, hp1⟩
      have H1 := Lib.hid (And.intro hk1 (And.intro hs1 (And.intro hd1 (And.intro hx1 hp1))))
      clear hk1 hs1 hd1 hx1 hp1
      go_wp2_with fail
      go_end0
      have h1 := H1.out
      have h := HX.out
      exact ⟨rfl, (((KpB.refl blk W).alloc _).trans HK.out).trans h1.1, d1, h1.2.1, h1.2.2.1, h.2.2.1 d1 (Rot.of_xch h1.2.2.2.1 (by omega)), permIn_trans _ _ _ _ _ h.2.2.2 (permIn_mono _ _ (m - i) (m + i) a b (by omega) (by omega) (by omega) h1.2.2.2.2)⟩
    · by_cases hgt : j < i
      · have hw4 : IntKind.i64.wrap ((i : Int) - (j : Int)) = ((i - j : Nat) : Int) := by rw [IntWalk.i64_in _ (by omega)]; omega
        have hne : ((i : Int) == (j : Int)) = false := by rw [beq_eq_false_iff_ne]; omega
        clear heq
        go_wp2_with fail
        refine (swapRange_any HS.out (m - i) m j d' HX.out.2.1 (by omega) (by omega) wo HX.out.1).mono ?_
        rintro e w1 ⟨rfl, hk1, d1, hs1, hd1, hx1, hp1⟩
        have H1 := Lib.hid (And.intro hk1 (And.intro hs1 (And.intro hd1 (And.intro hx1 hp1))))
        clear hk1 hs1 hd1 hx1 hp1
        go_wp2_with fail
        go_roundw
        case rel =>
          have h1 := H1.out
          have h := HX.out
          exact ⟨i - j, j, d1, by omega, hj0, by omega, hj, rfl, rfl, HK.out.trans h1.1, h1.2.1, h1.2.2.1, fun d'' hr => h.2.2.1 d'' (Rot.left h1.2.2.2.1 hr hgt (by omega)), permIn_trans _ _ _ _ _ h.2.2.2 (permIn_mono _ _ (m - i) (m + j) a b (by omega) (by omega) (by omega) h1.2.2.2.2)⟩
        case measure => first | (simp [intOf]; done) | (simp [intOf]; omega)
      · have hlt : i < j := by omega
        have hw4 : IntKind.i64.wrap ((j : Int) - (i : Int)) = ((j - i : Nat) : Int) := by rw [IntWalk.i64_in _ (by omega)]; omega
        have hw5 : IntKind.i64.wrap ((m : Int) + (j : Int)) = (m : Int) + (j : Int) := IntWalk.i64_in _ (by omega)
        have hw6 : IntKind.i64.wrap ((m : Int) + (j : Int) - (i : Int)) = ((m + j - i : Nat) : Int) := by rw [IntWalk.i64_in _ (by omega)]; omega
        have hne : ((i : Int) == (j : Int)) = false := by rw [beq_eq_false_iff_ne]; omega
        clear heq
        go_wp2_with fail
        refine (swapRange_any HS.out (m - i) (m + j - i) i d' HX.out.2.1 (by omega) (by omega) wo HX.out.1).mono ?_
        rintro e w1 ⟨rfl, hk1, d1, hs1, hd1, hx1, hp1⟩
        have H1 := Lib.hid (And.intro hk1 (And.intro hs1 (And.intro hd1 (And.intro hx1 hp1))))
        clear hk1 hs1 hd1 hx1 hp1
        go_wp2_with fail
        go_roundw
        case rel =>
          have h1 := H1.out
          have h := HX.out
          exact ⟨i, j - i, d1, hi0, by omega, hi, by omega, rfl, rfl, HK.out.trans h1.1, h1.2.1, h1.2.2.1, fun d'' hr => h.2.2.1 d'' (Rot.right h1.2.2.2.1 (by rwa [show m + (j - i) = m + (j - i) from rfl]) hlt (by omega)), permIn_trans _ _ _ _ _ h.2.2.2 (permIn_mono _ _ (m - i) (m + j - i + i) a b (by omega) (by omega) (by omega) h1.2.2.2.2)⟩
        case measure => first | (simp [intOf]; done) | (simp [intOf]; omega)
end
end Go.Proofs.YteeplmnjipddaaaDoor
/- Go's stable sort at this seat: merges. Conditions: elements of one cell, at most 1000000. -/
namespace Go.Proofs.YteeplmnjipddaaaDoor
set_option linter.unusedSimpArgs false
set_option linter.unusedVariables false
open Go.Shelf Go.RowKit Go.Lib Go.Sort

theorem mid_w {i j h : Nat} (hs : i + j ≤ 2000000) (hh : (i + j) / 2 = h) : IntKind.i64.wrap ((i : Int) + (j : Int)) = (i : Int) + (j : Int) ∧ IntKind.u64.wrap ((i : Int) + (j : Int)) = (i : Int) + (j : Int) ∧ IntKind.i64.wrap (((i : Int) + (j : Int)) / 2) = (h : Int) := by
  refine ⟨IntWalk.i64_in _ (by omega), ?_, ?_⟩
  · simp [IntKind.wrap, IntKind.bits, IntKind.signed]; omega
  · rw [IntWalk.i64_in _ (by omega)]; omega
/-- What a merge leaves. -/
def SymQ {α : Type} [Inhabited α] (enc : α → Value) (lt2 : α → α → Bool) (blk off n a b : Nat) (w0 : World) (d : Array α) (W : World) (e : Ending) (w' : World) : Prop :=
  e = .returned (.tuple #[]) ∧ KpB blk W w' ∧ ∃ d', SW enc w0 blk off d' w' ∧ d'.size = n ∧ PermIn a b d d' ∧ SortedIn lt2 a b d'
/-- One place goes to the right of the places behind it. -/
structure ShR {α : Type} [Inhabited α] (a k : Nat) (d d' : Array α) : Prop where
  lo : ∀ x, a ≤ x → x < k → d'[x]! = d[x + 1]!
  at_ : d'[k]! = d[a]!
  o : ∀ x, (x < a ∨ k < x) → d'[x]! = d[x]!
theorem ShR.zero {α : Type} [Inhabited α] (a : Nat) (d : Array α) : ShR a a d d := ⟨fun x h1 h2 => by omega, rfl, fun _ _ => rfl⟩
theorem ShR.step {α : Type} [Inhabited α] {a k : Nat} {d d' : Array α} (h : ShR a k d d') (hak : a ≤ k) (hk : k + 1 < d'.size) : ShR a (k + 1) d (swp d' k (k + 1)) := by
  refine ⟨fun x h1 h2 => ?_, ?_, fun x hx => ?_⟩
  · by_cases e : x = k
    · subst e
      rw [swp_left _ _ _ (by omega) (by omega), h.o _ (by omega)]
    · rw [swp_other _ _ _ _ e (by omega)]; exact h.lo x h1 (by omega)
  · rw [swp_right _ _ _ (by omega)]; exact h.at_
  · rw [swp_other _ _ _ _ (by omega) (by omega)]; exact h.o x (by omega)
/-- One place goes to the left of the places ahead of it. -/
structure ShL {α : Type} [Inhabited α] (m k : Nat) (d d' : Array α) : Prop where
  hi : ∀ x, k < x → x ≤ m → d'[x]! = d[x - 1]!
  at_ : d'[k]! = d[m]!
  o : ∀ x, (x < k ∨ m < x) → d'[x]! = d[x]!
theorem ShL.zero {α : Type} [Inhabited α] (m : Nat) (d : Array α) : ShL m m d d := ⟨fun x h1 h2 => by omega, rfl, fun _ _ => rfl⟩
theorem ShL.step {α : Type} [Inhabited α] {m k : Nat} {d d' : Array α} (h : ShL m (k + 1) d d') (hm : k + 1 ≤ m) (hk : m < d'.size) : ShL m k d (swp d' (k + 1) k) := by
  refine ⟨fun x h1 h2 => ?_, ?_, fun x hx => ?_⟩
  · by_cases e : x = k + 1
    · subst e
      rw [swp_left _ _ _ (by omega) (by omega), h.o _ (by omega)]
      exact at_eq d (by omega)
    · rw [swp_other _ _ _ _ e (by omega)]; exact h.hi x (by omega) h2
  · rw [swp_right _ _ _ (by omega)]; exact h.at_
  · rw [swp_other _ _ _ _ (by omega) (by omega)]; exact h.o x (by omega)
end Go.Proofs.YteeplmnjipddaaaDoor
/- Go's stable sort at this seat: a merge whose left part is one element. Conditions: elements of one cell, at most 1000000. -/
namespace Go.Proofs.YteeplmnjipddaaaDoor
set_option linter.unusedSimpArgs false
set_option linter.unusedVariables false
open Go.Shelf Go.RowKit Go.Lib Go.Sort

set_option maxRecDepth 100000 in
set_option maxHeartbeats 1600000 in
theorem symMerge_a {α : Type} [Inhabited α] {gl : Nat} {lb : Array Value} {sf : Nat} {sb : Array Value} {enc : α → Value} {lt lt2 : α → α → Bool} {ap : α → α → Prop} {blk off n : Nat} {w0 : World} (S : Srt Tryd.prog gl lb sf sb enc lt blk off n w0) (hO : SWO lt2) (hap : ∀ x y, ap x y → lt y x = lt2 y x) (a m b : Nat) (d : Array α) (W : World) (ham : a < m) (hmb : m < b) (hbn : b ≤ n) (hd : d.size = n) (hSW : SW enc w0 blk off d W) (hP : Pre lt2 ap a m b d) (hone : m - a = 1) :
    Calls Tryd.prog 61 #[.agg #[.func (.func gl) #[] lb, .func (.func sf) #[] sb], .int .i64 a, .int .i64 m, .int .i64 b] W (SymQ enc lt2 blk off n a b w0 d W) := by
  have HS := Lib.hid S
  have HW := Lib.hid (hSW.alloc (.cells #[.func (.func gl) #[] lb, .func (.func sf) #[] sb] 74))
  have HD := Lib.hid hd
  have HP := Lib.hid hP
  have HO := Lib.hid hO
  have HAP : Hid (∀ i j, a ≤ i → i < m → m ≤ j → j < b → lt d[j]! d[i]! = lt2 d[j]! d[i]!) := fun i j h1 h2 h3 h4 => hap _ _ (hP.x i j h1 h2 h3 h4)
  have hn := S.n40
  have eg := S.eg
  have hne : W.heap.size ≠ blk := by have := hSW.lt S.hblk; omega
  have HNE := Lib.hid hne
  have hw1 : IntKind.i64.wrap ((m : Int) - (a : Int)) = ((m - a : Nat) : Int) := by rw [IntWalk.i64_in _ (by omega)]; omega
  have hw2 : IntKind.i64.wrap ((b : Int) - (m : Int)) = ((b - m : Nat) : Int) := by rw [IntWalk.i64_in _ (by omega)]; omega
  clear S hO hap hSW hd hP hne
  have hq1 : (((m - a : Nat) : Int) == 1) = true := by rw [beq_iff_eq]; omega
  have hma : m = a + 1 := by omega
  have HMA := Lib.hid hma
  clear hone hma
  go_enter Tryd.func61, Tryd.ntmps61
  go_wp2
  go_loopw [8, 9] (fun v u wr => ∃ i j : Nat, m ≤ i ∧ i ≤ j ∧ j ≤ b ∧ v = .int .i64 i ∧ u = .int .i64 j ∧ Hid ((m < i → lt2 d[i - 1]! d[a]! = true) ∧ (j < b → lt2 d[j]! d[a]! = false)) ∧ KpB blk (W.alloc (.cells #[.func (.func gl) #[] lb, .func (.func sf) #[] sb] 74)) wr ∧ SW enc w0 blk off d wr) (fun v u _ => (intOf u).toNat - (intOf v).toNat)
  case atStart => exact ⟨m, b, Nat.le_refl _, by omega, Nat.le_refl _, rfl, rfl, ⟨fun h => absurd h (by omega), fun h => absurd h (by omega)⟩, KpB.refl _ _, HW.out⟩
  case round =>
    obtain ⟨i, j, hmi, hij, hjb, rfl, rfl, hcc, hk, hsw⟩ := hrel
    rename World => wo
    have HSW := Lib.hid hsw
    have HK := Lib.hid hk
    have c0 : wo.cell? ⟨W.heap.size, 0, none⟩ = some (.func (.func gl) #[] lb) := (hk.1 _ _ (by simp) HNE.out).trans (by simp)
    have c1 : wo.cell? ⟨W.heap.size, 1, none⟩ = some (.func (.func sf) #[] sb) := (hk.1 _ _ (by simp) HNE.out).trans (by simp)
    clear hk hsw
    by_cases hlt : i < j
    · obtain ⟨h, hh⟩ : ∃ h, (i + j) / 2 = h := ⟨_, rfl⟩
      obtain ⟨m1, m2, m3⟩ := mid_w (by omega) hh
      have hih : i ≤ h := by omega
      have hhj : h < j := by omega
      have hl := HS.out.lessAt HSW.out HD.out (show h < n by omega) (show a < n by omega)
      rw [HAP.out a h (Nat.le_refl _) ham (by omega) (by omega)] at hl
      clear hh
      cases hlv : lt2 d[h]! d[a]!
      case true =>
        rw [hlv] at hl
        have HLV := Lib.hid hlv
        clear hlv
        go_wp2_with (go_at_fn gl; refine hl.mono ?_; rintro e w' ⟨rfl, q, rfl⟩)
        go_roundw
        case rel => exact ⟨h + 1, j, by omega, by omega, hjb, by go_num, rfl, ⟨fun _ => HLV.out, hcc.out.2⟩, HK.out.drewN q, HSW.out.drewN q⟩
        case measure => simp [intOf]; omega
      case false =>
        rw [hlv] at hl
        have HLV := Lib.hid hlv
        clear hlv
        go_wp2_with (go_at_fn gl; refine hl.mono ?_; rintro e w' ⟨rfl, q, rfl⟩)
        go_roundw
        case rel => exact ⟨i, h, hmi, hih, by omega, rfl, rfl, ⟨hcc.out.1, fun _ => HLV.out⟩, HK.out.drewN q, HSW.out.drewN q⟩
        case measure => simp [intOf]; omega
    · obtain rfl : j = i := by omega
      have hwi : IntKind.i64.wrap ((j : Int) - 1) = ((j - 1 : Nat) : Int) := by rw [IntWalk.i64_in _ (by omega)]; omega
      clear c0 c1
      go_wp2
      go_loopw [11] (fun v wr => ∃ (k : Nat) (d' : Array α), a ≤ k ∧ k ≤ j - 1 ∧ v = .int .i64 k ∧ KpB blk (W.alloc (.cells #[.func (.func gl) #[] lb, .func (.func sf) #[] sb] 74)) wr ∧ SW enc w0 blk off d' wr ∧ d'.size = n ∧ ShR a k d d' ∧ PermIn a b d d') (fun v _ => b - (intOf v).toNat)
      case atStart => exact ⟨a, d, Nat.le_refl _, by omega, rfl, HK.out, HSW.out, HD.out, ShR.zero _ _, permIn_refl _ _ _⟩
      case round =>
        obtain ⟨k, d', hak, hkj, rfl, hk, hsw, hd', hx, hp⟩ := hrel
        rename World => wp
        have HX := Lib.hid (And.intro hsw (And.intro hd' (And.intro hx hp)))
        have HK2 := Lib.hid hk
        have c1 : wp.cell? ⟨W.heap.size, 1, none⟩ = some (.func (.func sf) #[] sb) := (hk.1 _ _ (by simp) HNE.out).trans (by simp)
        clear hk hsw hd' hx hp
        by_cases hlt2 : k < j - 1
        · obtain ⟨W', hs, hsw', hkp'⟩ := HS.out.swapAt HX.out.1 HX.out.2.1 (show k < n by omega) (show k + 1 < n by omega)
          rw [show ((k + 1 : Nat) : Int) = (k : Int) + 1 from rfl] at hs
          have H2 := Lib.hid (And.intro hsw' hkp')
          have hwk : IntKind.i64.wrap ((k : Int) + 1) = (k : Int) + 1 := IntWalk.i64_in _ (by omega)
          clear hsw' hkp'
          go_wp2
          go_roundw
          case rel =>
            have h := HX.out
            exact ⟨k + 1, swp d' k (k + 1), by omega, by omega, by go_num, HK2.out.trans H2.out.2, H2.out.1, by rw [size_swp]; exact h.2.1, h.2.2.1.step hak (by omega),
              permIn_trans _ _ _ _ _ h.2.2.2 (swp_permIn d' a b k (k + 1) (by omega) (by omega) (by omega) (by omega) (by omega))⟩
          case measure => first | (simp [intOf]; done) | (simp [intOf]; omega)
        · obtain rfl : k = j - 1 := by omega
          go_wp2
          go_end0
          have h := HX.out
          have hP := HP.out
          refine ⟨rfl, ((KpB.refl blk W).alloc _).trans HK2.out, d', h.1, h.2.1, h.2.2.2, ?_⟩
          have hma := HMA.out
          subst hma
          exact one_left HO.out hP hmi hjb (fun h1 => hcc.out.1 h1) (fun h1 => hcc.out.2 h1) (fun x h1 h2 => h.2.2.1.lo x h1 h2) h.2.2.1.at_ (fun x h1 => h.2.2.1.o x (by omega))
end Go.Proofs.YteeplmnjipddaaaDoor
/- Go's stable sort at this seat: a merge whose right part is one element. Conditions: elements of one cell, at most 1000000. -/
namespace Go.Proofs.YteeplmnjipddaaaDoor
set_option linter.unusedSimpArgs false
set_option linter.unusedVariables false
open Go.Shelf Go.RowKit Go.Lib Go.Sort

set_option maxRecDepth 100000 in
set_option maxHeartbeats 1600000 in
theorem symMerge_b {α : Type} [Inhabited α] {gl : Nat} {lb : Array Value} {sf : Nat} {sb : Array Value} {enc : α → Value} {lt lt2 : α → α → Bool} {ap : α → α → Prop} {blk off n : Nat} {w0 : World} (S : Srt Tryd.prog gl lb sf sb enc lt blk off n w0) (hO : SWO lt2) (hap : ∀ x y, ap x y → lt y x = lt2 y x) (a m b : Nat) (d : Array α) (W : World) (ham : a < m) (hmb : m < b) (hbn : b ≤ n) (hd : d.size = n) (hSW : SW enc w0 blk off d W) (hP : Pre lt2 ap a m b d) (hone : ¬ m - a = 1) (htwo : b - m = 1) :
    Calls Tryd.prog 61 #[.agg #[.func (.func gl) #[] lb, .func (.func sf) #[] sb], .int .i64 a, .int .i64 m, .int .i64 b] W (SymQ enc lt2 blk off n a b w0 d W) := by
  have HS := Lib.hid S
  have HW := Lib.hid (hSW.alloc (.cells #[.func (.func gl) #[] lb, .func (.func sf) #[] sb] 74))
  have HD := Lib.hid hd
  have HP := Lib.hid hP
  have HO := Lib.hid hO
  have HAP : Hid (∀ i j, a ≤ i → i < m → m ≤ j → j < b → lt d[j]! d[i]! = lt2 d[j]! d[i]!) := fun i j h1 h2 h3 h4 => hap _ _ (hP.x i j h1 h2 h3 h4)
  have hn := S.n40
  have eg := S.eg
  have hne : W.heap.size ≠ blk := by have := hSW.lt S.hblk; omega
  have HNE := Lib.hid hne
  have hw1 : IntKind.i64.wrap ((m : Int) - (a : Int)) = ((m - a : Nat) : Int) := by rw [IntWalk.i64_in _ (by omega)]; omega
  have hw2 : IntKind.i64.wrap ((b : Int) - (m : Int)) = ((b - m : Nat) : Int) := by rw [IntWalk.i64_in _ (by omega)]; omega
  clear S hO hap hSW hd hP hne
  have hq1 : (((m - a : Nat) : Int) == 1) = false := by rw [beq_eq_false_iff_ne]; omega
  have hq2 : (((b - m : Nat) : Int) == 1) = true := by rw [beq_iff_eq]; omega
  have hbm : b = m + 1 := by omega
  have HBM := Lib.hid hbm
  clear hone htwo hbm
  go_enter Tryd.func61, Tryd.ntmps61
  go_wp2
  go_loopw [12, 13] (fun v u wr => ∃ i j : Nat, a ≤ i ∧ i ≤ j ∧ j ≤ m ∧ v = .int .i64 i ∧ u = .int .i64 j ∧ Hid ((a < i → lt2 d[m]! d[i - 1]! = false) ∧ (j < m → lt2 d[m]! d[j]! = true)) ∧ KpB blk (W.alloc (.cells #[.func (.func gl) #[] lb, .func (.func sf) #[] sb] 74)) wr ∧ SW enc w0 blk off d wr) (fun v u _ => (intOf u).toNat - (intOf v).toNat)
  case atStart => exact ⟨a, m, Nat.le_refl _, by omega, Nat.le_refl _, rfl, rfl, ⟨fun h => absurd h (by omega), fun h => absurd h (by omega)⟩, KpB.refl _ _, HW.out⟩
  case round =>
    obtain ⟨i, j, hai, hij, hjm, rfl, rfl, hcc, hk, hsw⟩ := hrel
    rename World => wo
    have HSW := Lib.hid hsw
    have HK := Lib.hid hk
    have c0 : wo.cell? ⟨W.heap.size, 0, none⟩ = some (.func (.func gl) #[] lb) := (hk.1 _ _ (by simp) HNE.out).trans (by simp)
    clear hk hsw
    by_cases hlt : i < j
    · obtain ⟨h, hh⟩ : ∃ h, (i + j) / 2 = h := ⟨_, rfl⟩
      obtain ⟨m1, m2, m3⟩ := mid_w (by omega) hh
      have hih : i ≤ h := by omega
      have hhj : h < j := by omega
      have hl := HS.out.lessAt HSW.out HD.out (show m < n by omega) (show h < n by omega)
      rw [HAP.out h m (by omega) (by omega) (Nat.le_refl _) hmb] at hl
      clear hh
      cases hlv : lt2 d[m]! d[h]!
      case true =>
        rw [hlv] at hl
        have HLV := Lib.hid hlv
        clear hlv
        go_wp2_with (go_at_fn gl; refine hl.mono ?_; rintro e w' ⟨rfl, q, rfl⟩)
        go_roundw
        case rel => exact ⟨i, h, hai, hih, by omega, rfl, rfl, ⟨hcc.out.1, fun _ => HLV.out⟩, HK.out.drewN q, HSW.out.drewN q⟩
        case measure => simp [intOf]; omega
      case false =>
        rw [hlv] at hl
        have HLV := Lib.hid hlv
        clear hlv
        go_wp2_with (go_at_fn gl; refine hl.mono ?_; rintro e w' ⟨rfl, q, rfl⟩)
        go_roundw
        case rel => exact ⟨h + 1, j, by omega, by omega, hjm, by go_num, rfl, ⟨fun _ => HLV.out, hcc.out.2⟩, HK.out.drewN q, HSW.out.drewN q⟩
        case measure => simp [intOf]; omega
    · obtain rfl : j = i := by omega
      clear c0
      go_wp2
      go_loopw [15] (fun v wr => ∃ (k : Nat) (d' : Array α), j ≤ k ∧ k ≤ m ∧ v = .int .i64 k ∧ KpB blk (W.alloc (.cells #[.func (.func gl) #[] lb, .func (.func sf) #[] sb] 74)) wr ∧ SW enc w0 blk off d' wr ∧ d'.size = n ∧ ShL m k d d' ∧ PermIn a b d d') (fun v _ => (intOf v).toNat)
      case atStart => exact ⟨m, d, by omega, Nat.le_refl _, rfl, HK.out, HSW.out, HD.out, ShL.zero _ _, permIn_refl _ _ _⟩
      case round =>
        obtain ⟨k, d', hjk, hkm, rfl, hk, hsw, hd', hx, hp⟩ := hrel
        rename World => wp
        have HX := Lib.hid (And.intro hsw (And.intro hd' (And.intro hx hp)))
        have HK2 := Lib.hid hk
        have c1 : wp.cell? ⟨W.heap.size, 1, none⟩ = some (.func (.func sf) #[] sb) := (hk.1 _ _ (by simp) HNE.out).trans (by simp)
        clear hk hsw hd' hx hp
        by_cases hlt2 : j < k
        · obtain ⟨p, rfl⟩ : ∃ p, k = p + 1 := ⟨k - 1, by omega⟩
          obtain ⟨W', hs, hsw', hkp'⟩ := HS.out.swapAt HX.out.1 HX.out.2.1 (show p + 1 < n by omega) (show p < n by omega)
          rw [show ((p + 1 : Nat) : Int) = (p : Int) + 1 from rfl] at hs
          have H2 := Lib.hid (And.intro hsw' hkp')
          have hwk : IntKind.i64.wrap ((p : Int) + 1 - 1) = (p : Int) := by rw [IntWalk.i64_in _ (by omega)]; omega
          clear hsw' hkp'
          go_wp2
          go_roundw
          case rel =>
            have h := HX.out
            exact ⟨p, swp d' (p + 1) p, by omega, by omega, by go_num, HK2.out.trans H2.out.2, H2.out.1, by rw [size_swp]; exact h.2.1, h.2.2.1.step (by omega) (by omega),
              permIn_trans _ _ _ _ _ h.2.2.2 (swp_permIn d' a b (p + 1) p (by omega) (by omega) (by omega) (by omega) (by omega))⟩
          case measure => first | (simp [intOf]; done) | (simp [intOf]; omega)
        · obtain rfl : k = j := by omega
          go_wp2
          go_end0
          have h := HX.out
          have hP := HP.out
          refine ⟨rfl, ((KpB.refl blk W).alloc _).trans HK2.out, d', h.1, h.2.1, h.2.2.2, ?_⟩
          have hbm := HBM.out
          subst hbm
          exact one_right HO.out hP hai hjm (fun h1 => hcc.out.1 h1) (fun h1 => hcc.out.2 h1) (fun x h1 h2 => h.2.2.1.hi x h1 h2) h.2.2.1.at_ (fun x h1 => h.2.2.1.o x (by omega))
end Go.Proofs.YteeplmnjipddaaaDoor
