/- Valid slots, by the reference. Conditions: lists below 2^20. -/
import Derived.Test.YtpcenpedbdenmaaSlot4
import Derived.Test.YtpcenpedbdenmaaHeld
namespace Go.Proofs.Ytpcenpedbdenmaa
set_option linter.unusedSimpArgs false
set_option linter.unusedVariables false
open Go.RowKit Go.WideShapes Go.ChangeShapes Go.Deep

theorem posBlk {W : World} {g m c1 k c2 : Nat} {t : TypeId} {A1 A2 : Option Addr} {d : PositionD} (K : Blk W g t #[.slice A1 m c1, .slice A2 k c2, .int .i64 d.player]) (s1 : Sl W W.heap.size 1 A1 m (d.pits.map (Value.int .i64))) (s2 : Sl W W.heap.size 1 A2 k (d.stores.map (Value.int .i64))) : PosAt W g 0 A1 m c1 A2 k c2 d := ⟨K.cell 0, K.cell 1, K.cell 2, s1, s2⟩
theorem SlAt.lt {w : World} {b o : Nat} {s : SlotR} {A : Option Addr} {m c : Nat} (h : SlAt w b o s A m c) : b < w.heap.size := cell_lt h.c0
theorem SlAt.later {w w' : World} {b o : Nat} {s : SlotR} {A : Option Addr} {m c : Nat} (h : SlAt w b o s A m c) (hb : Below w.heap.size w w') : SlAt w' b o s A m c := h.keep fun _ => hb.cell (p := ⟨b, _, none⟩) h.lt
theorem SlAt.drewN {w : World} {b o : Nat} {s : SlotR} {A : Option Addr} {m c : Nat} (h : SlAt w b o s A m c) (k : Nat) : SlAt (w.drewN k) b o s A m c := h.keep fun _ => rfl
set_option maxRecDepth 100000 in
set_option maxHeartbeats 4000000 in
theorem l16Key_any (b o : Nat) (s : SlotR) (A : Option Addr) (m c : Nat) (w : World) (h : SlAt w b o s A m c) : Calls Try.prog 89 #[.pointer (some ⟨b, o, none⟩)] w (KeyPost A m c s.p w) := by
  have hlt := h.lt
  obtain ⟨x0, x1, x2, x3, x4, x5⟩ := h
  go_enter Try.func89, Try.ntmps89
  go_wp2_with fail
  go_region
  all_goals
    go_wp2_with fail
    go_returns
    exact ⟨w.heap.size + 1, by simp, by (repeat' (first | (with_reducible exact Below.refl _ _) | (with_reducible assumption) | (with_reducible refine Below.alloc ?_ ?_ _) | (with_reducible refine Below.drew ?_) | (with_reducible refine belowDrewN ?_ _) | (with_reducible refine Below.setCell ?_ ?_ _) | (with_reducible refine Below.via (by with_reducible assumption) ?_ ?_) | (with_reducible refine Below.viaD (by with_reducible assumption) ?_ ?_) | (with_reducible exact Below.size (by with_reducible assumption)) | go_size | (with_reducible refine Nat.le_trans ?_ (Below.size (by with_reducible assumption))) | (with_reducible refine Nat.le_trans ?_ (sizeAlloc _ _)) | (with_reducible refine Nat.le_trans ?_ (sizeSet _ _ _)) | (with_reducible refine Nat.le_trans ?_ (sizeDrew _)))), zeros_sl (t := 2) (Blk.new' (by simp)), by (repeat' (first | (with_reducible exact Below.refl _ _) | (with_reducible assumption) | (with_reducible refine Below.alloc ?_ ?_ _) | (with_reducible refine Below.drew ?_) | (with_reducible refine belowDrewN ?_ _) | (with_reducible refine Below.setCell ?_ ?_ _) | (with_reducible refine Below.via (by with_reducible assumption) ?_ ?_) | (with_reducible refine Below.viaD (by with_reducible assumption) ?_ ?_) | (with_reducible exact Below.size (by with_reducible assumption)) | go_size | (with_reducible refine Nat.le_trans ?_ (Below.size (by with_reducible assumption))) | (with_reducible refine Nat.le_trans ?_ (sizeAlloc _ _)) | (with_reducible refine Nat.le_trans ?_ (sizeSet _ _ _)) | (with_reducible refine Nat.le_trans ?_ (sizeDrew _))))⟩
theorem l16Value_any (v : Int) (w : World) : Calls Try.prog 90 #[.int .i64 v] w fun e w' => e = .returned (.bool (inB v (-96) 96)) ∧ w = w' := by
  go_enter Try.func90, Try.ntmps90
  go_wp2_with (go_at_call 42; refine (l00In_any _ _ _ _).mono ?_; rintro e w_ ⟨rfl, rfl⟩)
  go_ret
  exact ⟨rfl, rfl⟩
set_option maxRecDepth 100000 in
set_option maxHeartbeats 8000000 in
theorem l16Slot_any (r : Ru) (b n c k : Nat) (A : Option Addr) (ss : List SlotR) (w : World) (hr : RuAt w b 0 r) (h9 : w.cell? ⟨b, 9, none⟩ = some (.slice A n c)) (hs : Sls w w.heap.size A n ss) (hk : k < n) (hm : (ss.getD k dS).ps.length ≤ 1048576) (hn : 1 ≤ n) (hn2 : n ≤ 64) :
    Calls Try.prog 78 #[.pointer (some ⟨b, 0, none⟩), .int .i64 k] w fun e w' => e = .returned (.bool (okSlot r n k (ss.getD k dS))) ∧ Below w.heap.size w w' := by
  obtain ⟨b2, off, u, ps, p, d, v, bd, A1, m, c1, rfl, hb2, HL, hat, hsl, hm63⟩ := hs.row hk
  rw [HL.out] at hm ⊢
  have hpl := hsl.ints
  have hm1 : m ≤ 1048576 := by simp only at hm; omega
  have hm2 : ps.length ≤ 1048576 := hm
  have HAT := Lib.hid hat
  obtain ⟨x0, x1, x2, x3, x4, x5⟩ := hat
  have HRU := Lib.hid hr
  have HSL := Lib.hid hsl
  have hbl := cell_lt h9
  obtain ⟨q, hq⟩ : ∃ q, okSlot r n k ⟨u, ps, p, d, v, bd⟩ = q := ⟨_, rfl⟩
  have HQ := Lib.hid hq
  have HPL := Lib.hid hpl
  clear hq hr hsl hpl hs hm HL
  rw [HQ.out]
  cases u
  case false =>
    have hE : (decide (m = 0) && decide (p = 0) && decide (d = 0) && decide (v = 0) && decide (bd = 0)) = q := by rw [← HQ.out, okSlot, if_neg (by simp), ← HPL.out]
    by_cases h0 : m = 0
    case neg =>
      obtain rfl : q = false := by rw [← hE]; simp [h0]
      have z0 : ((m : Int) == 0) = false := beq_eq_false_iff_ne.2 (by omega)
      clear hE
      go_enter Try.func78, Try.ntmps78
      go_wp2
      go_ret
      exact ⟨rfl, by (repeat' (first | (with_reducible exact Below.refl _ _) | (with_reducible assumption) | (with_reducible refine Below.alloc ?_ ?_ _) | (with_reducible refine Below.drew ?_) | (with_reducible refine belowDrewN ?_ _) | (with_reducible refine Below.setCell ?_ ?_ _) | (with_reducible refine Below.via (by with_reducible assumption) ?_ ?_) | (with_reducible refine Below.viaD (by with_reducible assumption) ?_ ?_) | (with_reducible exact Below.size (by with_reducible assumption)) | go_size | (with_reducible refine Nat.le_trans ?_ (Below.size (by with_reducible assumption))) | (with_reducible refine Nat.le_trans ?_ (sizeAlloc _ _)) | (with_reducible refine Nat.le_trans ?_ (sizeSet _ _ _)) | (with_reducible refine Nat.le_trans ?_ (sizeDrew _))))⟩
    case pos =>
      subst h0
      by_cases h1 : p = 0
      case neg =>
        obtain rfl : q = false := by rw [← hE]; simp [h1]
        have z1 : (p == 0) = false := beq_eq_false_iff_ne.2 (by omega)
        clear hE
        go_enter Try.func78, Try.ntmps78
        go_wp2
        go_ret
        exact ⟨rfl, by (repeat' (first | (with_reducible exact Below.refl _ _) | (with_reducible assumption) | (with_reducible refine Below.alloc ?_ ?_ _) | (with_reducible refine Below.drew ?_) | (with_reducible refine belowDrewN ?_ _) | (with_reducible refine Below.setCell ?_ ?_ _) | (with_reducible refine Below.via (by with_reducible assumption) ?_ ?_) | (with_reducible refine Below.viaD (by with_reducible assumption) ?_ ?_) | (with_reducible exact Below.size (by with_reducible assumption)) | go_size | (with_reducible refine Nat.le_trans ?_ (Below.size (by with_reducible assumption))) | (with_reducible refine Nat.le_trans ?_ (sizeAlloc _ _)) | (with_reducible refine Nat.le_trans ?_ (sizeSet _ _ _)) | (with_reducible refine Nat.le_trans ?_ (sizeDrew _))))⟩
      case pos =>
        subst h1
        by_cases h2 : d = 0
        case neg =>
          obtain rfl : q = false := by rw [← hE]; simp [h2]
          have z2 : (d == 0) = false := beq_eq_false_iff_ne.2 (by omega)
          clear hE
          go_enter Try.func78, Try.ntmps78
          go_wp2
          go_ret
          exact ⟨rfl, by (repeat' (first | (with_reducible exact Below.refl _ _) | (with_reducible assumption) | (with_reducible refine Below.alloc ?_ ?_ _) | (with_reducible refine Below.drew ?_) | (with_reducible refine belowDrewN ?_ _) | (with_reducible refine Below.setCell ?_ ?_ _) | (with_reducible refine Below.via (by with_reducible assumption) ?_ ?_) | (with_reducible refine Below.viaD (by with_reducible assumption) ?_ ?_) | (with_reducible exact Below.size (by with_reducible assumption)) | go_size | (with_reducible refine Nat.le_trans ?_ (Below.size (by with_reducible assumption))) | (with_reducible refine Nat.le_trans ?_ (sizeAlloc _ _)) | (with_reducible refine Nat.le_trans ?_ (sizeSet _ _ _)) | (with_reducible refine Nat.le_trans ?_ (sizeDrew _))))⟩
        case pos =>
          subst h2
          by_cases h3 : v = 0
          case neg =>
            obtain rfl : q = false := by rw [← hE]; simp [h3]
            have z3 : (v == 0) = false := beq_eq_false_iff_ne.2 (by omega)
            clear hE
            go_enter Try.func78, Try.ntmps78
            go_wp2
            go_ret
            exact ⟨rfl, by (repeat' (first | (with_reducible exact Below.refl _ _) | (with_reducible assumption) | (with_reducible refine Below.alloc ?_ ?_ _) | (with_reducible refine Below.drew ?_) | (with_reducible refine belowDrewN ?_ _) | (with_reducible refine Below.setCell ?_ ?_ _) | (with_reducible refine Below.via (by with_reducible assumption) ?_ ?_) | (with_reducible refine Below.viaD (by with_reducible assumption) ?_ ?_) | (with_reducible exact Below.size (by with_reducible assumption)) | go_size | (with_reducible refine Nat.le_trans ?_ (Below.size (by with_reducible assumption))) | (with_reducible refine Nat.le_trans ?_ (sizeAlloc _ _)) | (with_reducible refine Nat.le_trans ?_ (sizeSet _ _ _)) | (with_reducible refine Nat.le_trans ?_ (sizeDrew _))))⟩
          case pos =>
            subst h3
            by_cases h4 : bd = 0
            case neg =>
              obtain rfl : q = false := by rw [← hE]; simp [h4]
              have z4 : (bd == 0) = false := beq_eq_false_iff_ne.2 (by omega)
              clear hE
              go_enter Try.func78, Try.ntmps78
              go_wp2
              go_ret
              exact ⟨rfl, by (repeat' (first | (with_reducible exact Below.refl _ _) | (with_reducible assumption) | (with_reducible refine Below.alloc ?_ ?_ _) | (with_reducible refine Below.drew ?_) | (with_reducible refine belowDrewN ?_ _) | (with_reducible refine Below.setCell ?_ ?_ _) | (with_reducible refine Below.via (by with_reducible assumption) ?_ ?_) | (with_reducible refine Below.viaD (by with_reducible assumption) ?_ ?_) | (with_reducible exact Below.size (by with_reducible assumption)) | go_size | (with_reducible refine Nat.le_trans ?_ (Below.size (by with_reducible assumption))) | (with_reducible refine Nat.le_trans ?_ (sizeAlloc _ _)) | (with_reducible refine Nat.le_trans ?_ (sizeSet _ _ _)) | (with_reducible refine Nat.le_trans ?_ (sizeDrew _))))⟩
            case pos =>
              subst h4
              obtain rfl : q = true := by rw [← hE]; simp
              clear hE
              go_enter Try.func78, Try.ntmps78
              go_wp2
              go_ret
              exact ⟨rfl, by (repeat' (first | (with_reducible exact Below.refl _ _) | (with_reducible assumption) | (with_reducible refine Below.alloc ?_ ?_ _) | (with_reducible refine Below.drew ?_) | (with_reducible refine belowDrewN ?_ _) | (with_reducible refine Below.setCell ?_ ?_ _) | (with_reducible refine Below.via (by with_reducible assumption) ?_ ?_) | (with_reducible refine Below.viaD (by with_reducible assumption) ?_ ?_) | (with_reducible exact Below.size (by with_reducible assumption)) | go_size | (with_reducible refine Nat.le_trans ?_ (Below.size (by with_reducible assumption))) | (with_reducible refine Nat.le_trans ?_ (sizeAlloc _ _)) | (with_reducible refine Nat.le_trans ?_ (sizeSet _ _ _)) | (with_reducible refine Nat.le_trans ?_ (sizeDrew _))))⟩
  case true =>
    have hE : q = (okPos r ⟨ps, [0, 0], p⟩ && (inB d 1 8 && inB v (-96) 96 && inB bd 0 2) && decide (placeR ps p n = k)) := by rw [← HQ.out, okSlot, if_pos rfl]; rfl
    obtain ⟨z, hz⟩ : ∃ z, placeR ps p n = z := ⟨_, rfl⟩
    obtain ⟨q1, hq1⟩ : ∃ q, okPos r ⟨ps, [0, 0], p⟩ = q := ⟨_, rfl⟩
    have H1 := Lib.hid hq1
    have HZ := Lib.hid hz
    rw [hq1, hz] at hE
    clear hq1 hz HQ
    have HS0 : Hid (∀ W, Below w.heap.size w W → W.cell? ⟨b2, off + k * 6 + 1, none⟩ = some (.slice A1 m c1) ∧ W.cell? ⟨b2, off + k * 6 + 2, none⟩ = some (.int .i64 p) ∧ W.cell? ⟨b, 9, none⟩ = some (.slice (some ⟨b2, off, none⟩) n c) ∧ Below w.heap.size w W) := fun W hb => ⟨(hb.cell (p := ⟨_, _, none⟩) hb2).trans x1, (hb.cell (p := ⟨_, _, none⟩) hb2).trans x2, (hb.cell (p := ⟨_, _, none⟩) hbl).trans h9, hb⟩
    have HH : Hid (q1 = true → ∀ w', Below w.heap.size w w' → Calls Try.prog 83 #[.slice A1 m c1, .int .i64 p, .int .i64 n] w' fun e w'' => e = .returned (.int .i64 z) ∧ w' = w'') := fun h1 w' hb => by
      have h2 := okPos_parts (H1.out.trans h1)
      rw [← HZ.out]
      exact l16Hash_any A1 n m c1 p ps w' (HSL.out.later hb) h2.1 h2.2.1 h2.2.2 hn hn2 hm1
    cases q1
    case false =>
      obtain rfl : q = false := by rw [hE]; simp
      clear hE
      go_enter Try.func78, Try.ntmps78
      go_wp2_with (first | (go_at_call 89; (with_reducible refine Calls.mono (l16Key_any _ _ _ _ _ _ _ HAT.out) ?_); rintro e w3 ⟨g3, rfl, hg3, s3, hb3⟩; obtain ⟨hc3, hf3, hl3, hz3⟩ := bfacts hb3; have S3 := Lib.hid s3; clear s3) | (go_at_call 82; (refine Calls.mono (l04Ok_two r b 0 _ 0 A1 (some ⟨g3, 0, none⟩) m c1 2 2 ⟨ps, [0, 0], p⟩ _ (HRU.out.later (by (repeat' (first | (with_reducible exact Below.refl _ _) | (with_reducible assumption) | (with_reducible refine Below.alloc ?_ ?_ _) | (with_reducible refine Below.drew ?_) | (with_reducible refine belowDrewN ?_ _) | (with_reducible refine Below.setCell ?_ ?_ _) | (with_reducible refine Below.via (by with_reducible assumption) ?_ ?_) | (with_reducible refine Below.viaD (by with_reducible assumption) ?_ ?_) | (with_reducible exact Below.size (by with_reducible assumption)) | go_size | (with_reducible refine Nat.le_trans ?_ (Below.size (by with_reducible assumption))) | (with_reducible refine Nat.le_trans ?_ (sizeAlloc _ _)) | (with_reducible refine Nat.le_trans ?_ (sizeSet _ _ _)) | (with_reducible refine Nat.le_trans ?_ (sizeDrew _)))))) (posBlk (t := 49) (Blk.new _ _ _) (HSL.out.later (by (repeat' (first | (with_reducible exact Below.refl _ _) | (with_reducible assumption) | (with_reducible refine Below.alloc ?_ ?_ _) | (with_reducible refine Below.drew ?_) | (with_reducible refine belowDrewN ?_ _) | (with_reducible refine Below.setCell ?_ ?_ _) | (with_reducible refine Below.via (by with_reducible assumption) ?_ ?_) | (with_reducible refine Below.viaD (by with_reducible assumption) ?_ ?_) | (with_reducible exact Below.size (by with_reducible assumption)) | go_size | (with_reducible refine Nat.le_trans ?_ (Below.size (by with_reducible assumption))) | (with_reducible refine Nat.le_trans ?_ (sizeAlloc _ _)) | (with_reducible refine Nat.le_trans ?_ (sizeSet _ _ _)) | (with_reducible refine Nat.le_trans ?_ (sizeDrew _)))))) (S3.out.later (by (repeat' (first | (with_reducible exact Below.refl _ _) | (with_reducible assumption) | (with_reducible refine Below.alloc ?_ ?_ _) | (with_reducible refine Below.drew ?_) | (with_reducible refine belowDrewN ?_ _) | (with_reducible refine Below.setCell ?_ ?_ _) | (with_reducible refine Below.via (by with_reducible assumption) ?_ ?_) | (with_reducible refine Below.viaD (by with_reducible assumption) ?_ ?_) | (with_reducible exact Below.size (by with_reducible assumption)) | go_size | (with_reducible refine Nat.le_trans ?_ (Below.size (by with_reducible assumption))) | (with_reducible refine Nat.le_trans ?_ (sizeAlloc _ _)) | (with_reducible refine Nat.le_trans ?_ (sizeSet _ _ _)) | (with_reducible refine Nat.le_trans ?_ (sizeDrew _))))))) ⟨hm2, by show (2 : Nat) ≤ _; omega⟩) ?_); rintro e w4 ⟨rfl, m4, rfl⟩; rw [H1.out]) | (go_at_call 42; refine (l00In_any _ _ _ _).mono ?_; rintro e w_ ⟨rfl, rfl⟩) | (go_at_call 90; refine (l16Value_any _ _).mono ?_; rintro e w_ ⟨rfl, rfl⟩))
      go_ret
      exact ⟨rfl, by (repeat' (first | (with_reducible exact Below.refl _ _) | (with_reducible assumption) | (with_reducible refine Below.alloc ?_ ?_ _) | (with_reducible refine Below.drew ?_) | (with_reducible refine belowDrewN ?_ _) | (with_reducible refine Below.setCell ?_ ?_ _) | (with_reducible refine Below.via (by with_reducible assumption) ?_ ?_) | (with_reducible refine Below.viaD (by with_reducible assumption) ?_ ?_) | (with_reducible exact Below.size (by with_reducible assumption)) | go_size | (with_reducible refine Nat.le_trans ?_ (Below.size (by with_reducible assumption))) | (with_reducible refine Nat.le_trans ?_ (sizeAlloc _ _)) | (with_reducible refine Nat.le_trans ?_ (sizeSet _ _ _)) | (with_reducible refine Nat.le_trans ?_ (sizeDrew _))))⟩
    case true =>
      cases g2 : inB d 1 8
      case false =>
        obtain rfl : q = false := by rw [hE, g2]; simp
        clear hE
        go_enter Try.func78, Try.ntmps78
        go_wp2_with (first | (go_at_call 89; (with_reducible refine Calls.mono (l16Key_any _ _ _ _ _ _ _ HAT.out) ?_); rintro e w3 ⟨g3, rfl, hg3, s3, hb3⟩; obtain ⟨hc3, hf3, hl3, hz3⟩ := bfacts hb3; have S3 := Lib.hid s3; clear s3) | (go_at_call 82; (refine Calls.mono (l04Ok_two r b 0 _ 0 A1 (some ⟨g3, 0, none⟩) m c1 2 2 ⟨ps, [0, 0], p⟩ _ (HRU.out.later (by (repeat' (first | (with_reducible exact Below.refl _ _) | (with_reducible assumption) | (with_reducible refine Below.alloc ?_ ?_ _) | (with_reducible refine Below.drew ?_) | (with_reducible refine belowDrewN ?_ _) | (with_reducible refine Below.setCell ?_ ?_ _) | (with_reducible refine Below.via (by with_reducible assumption) ?_ ?_) | (with_reducible refine Below.viaD (by with_reducible assumption) ?_ ?_) | (with_reducible exact Below.size (by with_reducible assumption)) | go_size | (with_reducible refine Nat.le_trans ?_ (Below.size (by with_reducible assumption))) | (with_reducible refine Nat.le_trans ?_ (sizeAlloc _ _)) | (with_reducible refine Nat.le_trans ?_ (sizeSet _ _ _)) | (with_reducible refine Nat.le_trans ?_ (sizeDrew _)))))) (posBlk (t := 49) (Blk.new _ _ _) (HSL.out.later (by (repeat' (first | (with_reducible exact Below.refl _ _) | (with_reducible assumption) | (with_reducible refine Below.alloc ?_ ?_ _) | (with_reducible refine Below.drew ?_) | (with_reducible refine belowDrewN ?_ _) | (with_reducible refine Below.setCell ?_ ?_ _) | (with_reducible refine Below.via (by with_reducible assumption) ?_ ?_) | (with_reducible refine Below.viaD (by with_reducible assumption) ?_ ?_) | (with_reducible exact Below.size (by with_reducible assumption)) | go_size | (with_reducible refine Nat.le_trans ?_ (Below.size (by with_reducible assumption))) | (with_reducible refine Nat.le_trans ?_ (sizeAlloc _ _)) | (with_reducible refine Nat.le_trans ?_ (sizeSet _ _ _)) | (with_reducible refine Nat.le_trans ?_ (sizeDrew _)))))) (S3.out.later (by (repeat' (first | (with_reducible exact Below.refl _ _) | (with_reducible assumption) | (with_reducible refine Below.alloc ?_ ?_ _) | (with_reducible refine Below.drew ?_) | (with_reducible refine belowDrewN ?_ _) | (with_reducible refine Below.setCell ?_ ?_ _) | (with_reducible refine Below.via (by with_reducible assumption) ?_ ?_) | (with_reducible refine Below.viaD (by with_reducible assumption) ?_ ?_) | (with_reducible exact Below.size (by with_reducible assumption)) | go_size | (with_reducible refine Nat.le_trans ?_ (Below.size (by with_reducible assumption))) | (with_reducible refine Nat.le_trans ?_ (sizeAlloc _ _)) | (with_reducible refine Nat.le_trans ?_ (sizeSet _ _ _)) | (with_reducible refine Nat.le_trans ?_ (sizeDrew _))))))) ⟨hm2, by show (2 : Nat) ≤ _; omega⟩) ?_); rintro e w4 ⟨rfl, m4, rfl⟩; rw [H1.out]) | (go_at_call 42; refine (l00In_any _ _ _ _).mono ?_; rintro e w_ ⟨rfl, rfl⟩) | (go_at_call 90; refine (l16Value_any _ _).mono ?_; rintro e w_ ⟨rfl, rfl⟩))
        go_ret
        exact ⟨rfl, by (repeat' (first | (with_reducible exact Below.refl _ _) | (with_reducible assumption) | (with_reducible refine Below.alloc ?_ ?_ _) | (with_reducible refine Below.drew ?_) | (with_reducible refine belowDrewN ?_ _) | (with_reducible refine Below.setCell ?_ ?_ _) | (with_reducible refine Below.via (by with_reducible assumption) ?_ ?_) | (with_reducible refine Below.viaD (by with_reducible assumption) ?_ ?_) | (with_reducible exact Below.size (by with_reducible assumption)) | go_size | (with_reducible refine Nat.le_trans ?_ (Below.size (by with_reducible assumption))) | (with_reducible refine Nat.le_trans ?_ (sizeAlloc _ _)) | (with_reducible refine Nat.le_trans ?_ (sizeSet _ _ _)) | (with_reducible refine Nat.le_trans ?_ (sizeDrew _))))⟩
      case true =>
        cases g3 : inB v (-96) 96
        case false =>
          obtain rfl : q = false := by rw [hE, g3]; simp
          clear hE
          go_enter Try.func78, Try.ntmps78
          go_wp2_with (first | (go_at_call 89; (with_reducible refine Calls.mono (l16Key_any _ _ _ _ _ _ _ HAT.out) ?_); rintro e w3 ⟨g3, rfl, hg3, s3, hb3⟩; obtain ⟨hc3, hf3, hl3, hz3⟩ := bfacts hb3; have S3 := Lib.hid s3; clear s3) | (go_at_call 82; (refine Calls.mono (l04Ok_two r b 0 _ 0 A1 (some ⟨g3, 0, none⟩) m c1 2 2 ⟨ps, [0, 0], p⟩ _ (HRU.out.later (by (repeat' (first | (with_reducible exact Below.refl _ _) | (with_reducible assumption) | (with_reducible refine Below.alloc ?_ ?_ _) | (with_reducible refine Below.drew ?_) | (with_reducible refine belowDrewN ?_ _) | (with_reducible refine Below.setCell ?_ ?_ _) | (with_reducible refine Below.via (by with_reducible assumption) ?_ ?_) | (with_reducible refine Below.viaD (by with_reducible assumption) ?_ ?_) | (with_reducible exact Below.size (by with_reducible assumption)) | go_size | (with_reducible refine Nat.le_trans ?_ (Below.size (by with_reducible assumption))) | (with_reducible refine Nat.le_trans ?_ (sizeAlloc _ _)) | (with_reducible refine Nat.le_trans ?_ (sizeSet _ _ _)) | (with_reducible refine Nat.le_trans ?_ (sizeDrew _)))))) (posBlk (t := 49) (Blk.new _ _ _) (HSL.out.later (by (repeat' (first | (with_reducible exact Below.refl _ _) | (with_reducible assumption) | (with_reducible refine Below.alloc ?_ ?_ _) | (with_reducible refine Below.drew ?_) | (with_reducible refine belowDrewN ?_ _) | (with_reducible refine Below.setCell ?_ ?_ _) | (with_reducible refine Below.via (by with_reducible assumption) ?_ ?_) | (with_reducible refine Below.viaD (by with_reducible assumption) ?_ ?_) | (with_reducible exact Below.size (by with_reducible assumption)) | go_size | (with_reducible refine Nat.le_trans ?_ (Below.size (by with_reducible assumption))) | (with_reducible refine Nat.le_trans ?_ (sizeAlloc _ _)) | (with_reducible refine Nat.le_trans ?_ (sizeSet _ _ _)) | (with_reducible refine Nat.le_trans ?_ (sizeDrew _)))))) (S3.out.later (by (repeat' (first | (with_reducible exact Below.refl _ _) | (with_reducible assumption) | (with_reducible refine Below.alloc ?_ ?_ _) | (with_reducible refine Below.drew ?_) | (with_reducible refine belowDrewN ?_ _) | (with_reducible refine Below.setCell ?_ ?_ _) | (with_reducible refine Below.via (by with_reducible assumption) ?_ ?_) | (with_reducible refine Below.viaD (by with_reducible assumption) ?_ ?_) | (with_reducible exact Below.size (by with_reducible assumption)) | go_size | (with_reducible refine Nat.le_trans ?_ (Below.size (by with_reducible assumption))) | (with_reducible refine Nat.le_trans ?_ (sizeAlloc _ _)) | (with_reducible refine Nat.le_trans ?_ (sizeSet _ _ _)) | (with_reducible refine Nat.le_trans ?_ (sizeDrew _))))))) ⟨hm2, by show (2 : Nat) ≤ _; omega⟩) ?_); rintro e w4 ⟨rfl, m4, rfl⟩; rw [H1.out]) | (go_at_call 42; refine (l00In_any _ _ _ _).mono ?_; rintro e w_ ⟨rfl, rfl⟩) | (go_at_call 90; refine (l16Value_any _ _).mono ?_; rintro e w_ ⟨rfl, rfl⟩))
          go_ret
          exact ⟨rfl, by (repeat' (first | (with_reducible exact Below.refl _ _) | (with_reducible assumption) | (with_reducible refine Below.alloc ?_ ?_ _) | (with_reducible refine Below.drew ?_) | (with_reducible refine belowDrewN ?_ _) | (with_reducible refine Below.setCell ?_ ?_ _) | (with_reducible refine Below.via (by with_reducible assumption) ?_ ?_) | (with_reducible refine Below.viaD (by with_reducible assumption) ?_ ?_) | (with_reducible exact Below.size (by with_reducible assumption)) | go_size | (with_reducible refine Nat.le_trans ?_ (Below.size (by with_reducible assumption))) | (with_reducible refine Nat.le_trans ?_ (sizeAlloc _ _)) | (with_reducible refine Nat.le_trans ?_ (sizeSet _ _ _)) | (with_reducible refine Nat.le_trans ?_ (sizeDrew _))))⟩
        case true =>
          cases g4 : inB bd 0 2
          case false =>
            obtain rfl : q = false := by rw [hE, g4]; simp
            clear hE
            go_enter Try.func78, Try.ntmps78
            go_wp2_with (first | (go_at_call 89; (with_reducible refine Calls.mono (l16Key_any _ _ _ _ _ _ _ HAT.out) ?_); rintro e w3 ⟨g3, rfl, hg3, s3, hb3⟩; obtain ⟨hc3, hf3, hl3, hz3⟩ := bfacts hb3; have S3 := Lib.hid s3; clear s3) | (go_at_call 82; (refine Calls.mono (l04Ok_two r b 0 _ 0 A1 (some ⟨g3, 0, none⟩) m c1 2 2 ⟨ps, [0, 0], p⟩ _ (HRU.out.later (by (repeat' (first | (with_reducible exact Below.refl _ _) | (with_reducible assumption) | (with_reducible refine Below.alloc ?_ ?_ _) | (with_reducible refine Below.drew ?_) | (with_reducible refine belowDrewN ?_ _) | (with_reducible refine Below.setCell ?_ ?_ _) | (with_reducible refine Below.via (by with_reducible assumption) ?_ ?_) | (with_reducible refine Below.viaD (by with_reducible assumption) ?_ ?_) | (with_reducible exact Below.size (by with_reducible assumption)) | go_size | (with_reducible refine Nat.le_trans ?_ (Below.size (by with_reducible assumption))) | (with_reducible refine Nat.le_trans ?_ (sizeAlloc _ _)) | (with_reducible refine Nat.le_trans ?_ (sizeSet _ _ _)) | (with_reducible refine Nat.le_trans ?_ (sizeDrew _)))))) (posBlk (t := 49) (Blk.new _ _ _) (HSL.out.later (by (repeat' (first | (with_reducible exact Below.refl _ _) | (with_reducible assumption) | (with_reducible refine Below.alloc ?_ ?_ _) | (with_reducible refine Below.drew ?_) | (with_reducible refine belowDrewN ?_ _) | (with_reducible refine Below.setCell ?_ ?_ _) | (with_reducible refine Below.via (by with_reducible assumption) ?_ ?_) | (with_reducible refine Below.viaD (by with_reducible assumption) ?_ ?_) | (with_reducible exact Below.size (by with_reducible assumption)) | go_size | (with_reducible refine Nat.le_trans ?_ (Below.size (by with_reducible assumption))) | (with_reducible refine Nat.le_trans ?_ (sizeAlloc _ _)) | (with_reducible refine Nat.le_trans ?_ (sizeSet _ _ _)) | (with_reducible refine Nat.le_trans ?_ (sizeDrew _)))))) (S3.out.later (by (repeat' (first | (with_reducible exact Below.refl _ _) | (with_reducible assumption) | (with_reducible refine Below.alloc ?_ ?_ _) | (with_reducible refine Below.drew ?_) | (with_reducible refine belowDrewN ?_ _) | (with_reducible refine Below.setCell ?_ ?_ _) | (with_reducible refine Below.via (by with_reducible assumption) ?_ ?_) | (with_reducible refine Below.viaD (by with_reducible assumption) ?_ ?_) | (with_reducible exact Below.size (by with_reducible assumption)) | go_size | (with_reducible refine Nat.le_trans ?_ (Below.size (by with_reducible assumption))) | (with_reducible refine Nat.le_trans ?_ (sizeAlloc _ _)) | (with_reducible refine Nat.le_trans ?_ (sizeSet _ _ _)) | (with_reducible refine Nat.le_trans ?_ (sizeDrew _))))))) ⟨hm2, by show (2 : Nat) ≤ _; omega⟩) ?_); rintro e w4 ⟨rfl, m4, rfl⟩; rw [H1.out]) | (go_at_call 42; refine (l00In_any _ _ _ _).mono ?_; rintro e w_ ⟨rfl, rfl⟩) | (go_at_call 90; refine (l16Value_any _ _).mono ?_; rintro e w_ ⟨rfl, rfl⟩))
            go_ret
            exact ⟨rfl, by (repeat' (first | (with_reducible exact Below.refl _ _) | (with_reducible assumption) | (with_reducible refine Below.alloc ?_ ?_ _) | (with_reducible refine Below.drew ?_) | (with_reducible refine belowDrewN ?_ _) | (with_reducible refine Below.setCell ?_ ?_ _) | (with_reducible refine Below.via (by with_reducible assumption) ?_ ?_) | (with_reducible refine Below.viaD (by with_reducible assumption) ?_ ?_) | (with_reducible exact Below.size (by with_reducible assumption)) | go_size | (with_reducible refine Nat.le_trans ?_ (Below.size (by with_reducible assumption))) | (with_reducible refine Nat.le_trans ?_ (sizeAlloc _ _)) | (with_reducible refine Nat.le_trans ?_ (sizeSet _ _ _)) | (with_reducible refine Nat.le_trans ?_ (sizeDrew _))))⟩
          case true =>
            by_cases hzi : z = k
            case neg =>
              obtain rfl : q = false := by rw [hE, g2, g3, g4]; simp [hzi]
              have hzb : (z == (k : Int)) = false := beq_eq_false_iff_ne.2 hzi
              clear hE
              go_enter Try.func78, Try.ntmps78
              go_wp2_with (first | (go_at_call 89; (with_reducible refine Calls.mono (l16Key_any _ _ _ _ _ _ _ HAT.out) ?_); rintro e w3 ⟨g3, rfl, hg3, s3, hb3⟩; obtain ⟨hc3, hf3, hl3, hz3⟩ := bfacts hb3; have S3 := Lib.hid s3; clear s3) | (go_at_call 82; (refine Calls.mono (l04Ok_two r b 0 _ 0 A1 (some ⟨g3, 0, none⟩) m c1 2 2 ⟨ps, [0, 0], p⟩ _ (HRU.out.later (by (repeat' (first | (with_reducible exact Below.refl _ _) | (with_reducible assumption) | (with_reducible refine Below.alloc ?_ ?_ _) | (with_reducible refine Below.drew ?_) | (with_reducible refine belowDrewN ?_ _) | (with_reducible refine Below.setCell ?_ ?_ _) | (with_reducible refine Below.via (by with_reducible assumption) ?_ ?_) | (with_reducible refine Below.viaD (by with_reducible assumption) ?_ ?_) | (with_reducible exact Below.size (by with_reducible assumption)) | go_size | (with_reducible refine Nat.le_trans ?_ (Below.size (by with_reducible assumption))) | (with_reducible refine Nat.le_trans ?_ (sizeAlloc _ _)) | (with_reducible refine Nat.le_trans ?_ (sizeSet _ _ _)) | (with_reducible refine Nat.le_trans ?_ (sizeDrew _)))))) (posBlk (t := 49) (Blk.new _ _ _) (HSL.out.later (by (repeat' (first | (with_reducible exact Below.refl _ _) | (with_reducible assumption) | (with_reducible refine Below.alloc ?_ ?_ _) | (with_reducible refine Below.drew ?_) | (with_reducible refine belowDrewN ?_ _) | (with_reducible refine Below.setCell ?_ ?_ _) | (with_reducible refine Below.via (by with_reducible assumption) ?_ ?_) | (with_reducible refine Below.viaD (by with_reducible assumption) ?_ ?_) | (with_reducible exact Below.size (by with_reducible assumption)) | go_size | (with_reducible refine Nat.le_trans ?_ (Below.size (by with_reducible assumption))) | (with_reducible refine Nat.le_trans ?_ (sizeAlloc _ _)) | (with_reducible refine Nat.le_trans ?_ (sizeSet _ _ _)) | (with_reducible refine Nat.le_trans ?_ (sizeDrew _)))))) (S3.out.later (by (repeat' (first | (with_reducible exact Below.refl _ _) | (with_reducible assumption) | (with_reducible refine Below.alloc ?_ ?_ _) | (with_reducible refine Below.drew ?_) | (with_reducible refine belowDrewN ?_ _) | (with_reducible refine Below.setCell ?_ ?_ _) | (with_reducible refine Below.via (by with_reducible assumption) ?_ ?_) | (with_reducible refine Below.viaD (by with_reducible assumption) ?_ ?_) | (with_reducible exact Below.size (by with_reducible assumption)) | go_size | (with_reducible refine Nat.le_trans ?_ (Below.size (by with_reducible assumption))) | (with_reducible refine Nat.le_trans ?_ (sizeAlloc _ _)) | (with_reducible refine Nat.le_trans ?_ (sizeSet _ _ _)) | (with_reducible refine Nat.le_trans ?_ (sizeDrew _))))))) ⟨hm2, by show (2 : Nat) ≤ _; omega⟩) ?_); rintro e w4 ⟨rfl, m4, rfl⟩; rw [H1.out]) | (go_at_call 42; refine (l00In_any _ _ _ _).mono ?_; rintro e w_ ⟨rfl, rfl⟩) | (go_at_call 90; refine (l16Value_any _ _).mono ?_; rintro e w_ ⟨rfl, rfl⟩))
              refine wp_region_held_drew (S := (fun W => W.cell? ⟨b2, off + k * 6 + 1, none⟩ = some (.slice A1 m c1) ∧ W.cell? ⟨b2, off + k * 6 + 2, none⟩ = some (.int .i64 p) ∧ W.cell? ⟨b, 9, none⟩ = some (.slice (some ⟨b2, off, none⟩) n c) ∧ Below w.heap.size w W)) (by kernel_rfl) ?hS1 (fun hHeld => ?_)
              case hS1 => (try dsimp only); (first | (with_reducible assumption) | (exact HS0.out _ (by (repeat' (first | (with_reducible exact Below.refl _ _) | (with_reducible assumption) | (with_reducible refine Below.alloc ?_ ?_ _) | (with_reducible refine Below.drew ?_) | (with_reducible refine belowDrewN ?_ _) | (with_reducible refine Below.setCell ?_ ?_ _) | (with_reducible refine Below.via (by with_reducible assumption) ?_ ?_) | (with_reducible refine Below.viaD (by with_reducible assumption) ?_ ?_) | (with_reducible exact Below.size (by with_reducible assumption)) | go_size | (with_reducible refine Nat.le_trans ?_ (Below.size (by with_reducible assumption))) | (with_reducible refine Nat.le_trans ?_ (sizeAlloc _ _)) | (with_reducible refine Nat.le_trans ?_ (sizeSet _ _ _)) | (with_reducible refine Nat.le_trans ?_ (sizeDrew _)))))))
              refine H_take (i := 0) (v := ?v2) rfl (by kernel_rfl) (by kernel_rfl) (by kernel_rfl) (fun _ _ _ h => h) (by rfl) ?hy2 (by assumption) ?_
              case hy2 => (intro w hSw; (try dsimp only at hSw); go_simp; first | done | with_reducible rfl | (trace_state; fail))
              try simp only [Act.put, List.setIfInBounds_toArray, List.set_cons_zero, List.set_cons_succ]
              refine H_take (i := 1) (v := ?v3) rfl (by kernel_rfl) (by kernel_rfl) (by kernel_rfl) (fun _ _ _ h => h) (by rfl) ?hy3 (by assumption) ?_
              case hy3 => (intro w hSw; (try dsimp only at hSw); go_simp; first | done | with_reducible rfl | (trace_state; fail))
              try simp only [Act.put, List.setIfInBounds_toArray, List.set_cons_zero, List.set_cons_succ]
              refine H_take (i := 2) (v := ?v4) rfl (by kernel_rfl) (by kernel_rfl) (by kernel_rfl) (fun _ _ _ h => h) (by rfl) ?hy4 (by assumption) ?_
              case hy4 => (intro w hSw; (try dsimp only at hSw); go_simp; first | done | with_reducible rfl | (trace_state; fail))
              try simp only [Act.put, List.setIfInBounds_toArray, List.set_cons_zero, List.set_cons_succ]
              refine H_take (i := 3) (v := ?v5) rfl (by kernel_rfl) (by kernel_rfl) (by kernel_rfl) (fun _ _ _ h => h) (by rfl) ?hy5 (by assumption) ?_
              case hy5 => (intro w hSw; (try dsimp only at hSw); go_simp; first | done | with_reducible rfl | (trace_state; fail))
              try simp only [Act.put, List.setIfInBounds_toArray, List.set_cons_zero, List.set_cons_succ]
              refine H_take (i := 4) (v := ?v6) rfl (by kernel_rfl) (by kernel_rfl) (by kernel_rfl) (fun _ _ _ h => h) (by rfl) ?hy6 (by assumption) ?_
              case hy6 => (intro w hSw; (try dsimp only at hSw); go_simp; first | done | with_reducible rfl | (trace_state; fail))
              try simp only [Act.put, List.setIfInBounds_toArray, List.set_cons_zero, List.set_cons_succ]
              refine H_take (i := 5) (v := ?v7) rfl (by kernel_rfl) (by kernel_rfl) (by kernel_rfl) (fun _ _ _ h => h) (by rfl) ?hy7 (by assumption) ?_
              case hy7 => (intro w hSw; (try dsimp only at hSw); go_simp; first | done | with_reducible rfl | (trace_state; fail))
              try simp only [Act.put, List.setIfInBounds_toArray, List.set_cons_zero, List.set_cons_succ]
              refine H_take (i := 6) (v := ?v8) rfl (by kernel_rfl) (by kernel_rfl) (by kernel_rfl) (fun _ _ _ h => h) (by rfl) ?hy8 (by assumption) ?_
              case hy8 => (intro w hSw; (try dsimp only at hSw); go_simp; first | done | with_reducible rfl | (trace_state; fail))
              try simp only [Act.put, List.setIfInBounds_toArray, List.set_cons_zero, List.set_cons_succ]
              refine H_take (i := 7) (v := ?v9) rfl (by kernel_rfl) (by kernel_rfl) (by kernel_rfl) (fun _ _ _ h => h) (by rfl) ?hy9 (by assumption) ?_
              case hy9 => (intro w hSw; (try dsimp only at hSw); go_simp; first | done | with_reducible rfl | (trace_state; fail))
              try simp only [Act.put, List.setIfInBounds_toArray, List.set_cons_zero, List.set_cons_succ]
              refine H_take (i := 8) (v := ?v10) rfl (by kernel_rfl) (by kernel_rfl) (by kernel_rfl) (fun _ _ _ h => h) (by rfl) ?hy10 (by assumption) ?_
              case hy10 => (intro w hSw; (try dsimp only at hSw); go_simp; first | done | with_reducible rfl | (trace_state; fail))
              try simp only [Act.put, List.setIfInBounds_toArray, List.set_cons_zero, List.set_cons_succ]
              refine H_take (i := 9) (v := ?v11) rfl (by kernel_rfl) (by kernel_rfl) (by kernel_rfl) (fun _ _ _ h => h) (by rfl) ?hy11 (by assumption) ?_
              case hy11 => (intro w hSw; (try dsimp only at hSw); go_simp; first | done | with_reducible rfl | (trace_state; fail))
              try simp only [Act.put, List.setIfInBounds_toArray, List.set_cons_zero, List.set_cons_succ]
              refine H_take (i := 10) (v := ?v12) rfl (by kernel_rfl) (by kernel_rfl) (by kernel_rfl) (fun _ _ _ h => h) (by rfl) ?hy12 (by assumption) ?_
              case hy12 => (intro w hSw; (try dsimp only at hSw); go_simp; first | done | with_reducible rfl | (trace_state; fail))
              try simp only [Act.put, List.setIfInBounds_toArray, List.set_cons_zero, List.set_cons_succ]
              refine H_take (i := 11) (v := ?v13) rfl (by kernel_rfl) (by kernel_rfl) (by kernel_rfl) (fun _ _ _ h => h) (by rfl) ?hy13 (by assumption) ?_
              case hy13 => (intro w hSw; (try dsimp only at hSw); go_simp; first | done | with_reducible rfl | (trace_state; fail))
              try simp only [Act.put, List.setIfInBounds_toArray, List.set_cons_zero, List.set_cons_succ]
              refine H_take (i := 12) (v := ?v14) rfl (by kernel_rfl) (by kernel_rfl) (by kernel_rfl) (fun _ _ _ h => h) (by rfl) ?hy14 (by assumption) ?_
              case hy14 => (intro w hSw; (try dsimp only at hSw); go_simp; first | done | with_reducible rfl | (trace_state; fail))
              try simp only [Act.put, List.setIfInBounds_toArray, List.set_cons_zero, List.set_cons_succ]
              refine H_take (i := 14) (v := ?v15) rfl (by kernel_rfl) (by kernel_rfl) (by kernel_rfl) (fun _ _ _ h => h) (by rfl) ?hy15 (by assumption) ?_
              case hy15 => (intro w hSw; (try dsimp only at hSw); go_simp; first | done | with_reducible rfl | (trace_state; fail))
              try simp only [Act.put, List.setIfInBounds_toArray, List.set_cons_zero, List.set_cons_succ]
              refine H_call (i := 13) rfl (by kernel_rfl) (fun K hK => ?_)
              go_simp
              (go_at_call 83; (with_reducible refine Calls.mono (HH.out (by simp) _ ?_) ?_); (exact hHeld.2.2.2); rintro e w7 ⟨rfl, rfl⟩)
              refine hK.out _ _ ?hS16 (fun hHeld => ?_)
              case hS16 => (try dsimp only); (first | (with_reducible assumption) | (exact HS0.out _ (by (repeat' (first | (with_reducible exact Below.refl _ _) | (with_reducible assumption) | (with_reducible refine Below.alloc ?_ ?_ _) | (with_reducible refine Below.drew ?_) | (with_reducible refine belowDrewN ?_ _) | (with_reducible refine Below.setCell ?_ ?_ _) | (with_reducible refine Below.via (by with_reducible assumption) ?_ ?_) | (with_reducible refine Below.viaD (by with_reducible assumption) ?_ ?_) | (with_reducible exact Below.size (by with_reducible assumption)) | go_size | (with_reducible refine Nat.le_trans ?_ (Below.size (by with_reducible assumption))) | (with_reducible refine Nat.le_trans ?_ (sizeAlloc _ _)) | (with_reducible refine Nat.le_trans ?_ (sizeSet _ _ _)) | (with_reducible refine Nat.le_trans ?_ (sizeDrew _)))))))
              clear hK K
              try simp only [Act.put, List.setIfInBounds_toArray, List.set_cons_zero, List.set_cons_succ]
              refine H_take (i := 15) (v := ?v17) rfl (by kernel_rfl) (by kernel_rfl) (by kernel_rfl) (fun _ _ _ h => h) (by rfl) ?hy17 (by assumption) ?_
              case hy17 => (intro w hSw; (try dsimp only at hSw); go_simp; first | done | with_reducible rfl | (trace_state; fail))
              try simp only [Act.put, List.setIfInBounds_toArray, List.set_cons_zero, List.set_cons_succ]
              refine H_take (i := 16) (v := ?v18) rfl (by kernel_rfl) (by kernel_rfl) (by kernel_rfl) (fun _ _ _ h => h) (by rfl) ?hy18 (by assumption) ?_
              case hy18 => (intro w hSw; (try dsimp only at hSw); go_simp; first | done | with_reducible rfl | (trace_state; fail))
              try simp only [Act.put, List.setIfInBounds_toArray, List.set_cons_zero, List.set_cons_succ]
              refine wpAnyH_done (by kernel_rfl) ?_ _
              have hB := hHeld.2.2.2
              go_wp2_with fail
              go_ret
              exact ⟨rfl, hB⟩
            case pos =>
              obtain rfl : q = true := by rw [hE, g2, g3, g4]; simp [hzi]
              subst hzi
              have hzb : ((k : Int) == (k : Int)) = true := by simp
              clear hE
              go_enter Try.func78, Try.ntmps78
              go_wp2_with (first | (go_at_call 89; (with_reducible refine Calls.mono (l16Key_any _ _ _ _ _ _ _ HAT.out) ?_); rintro e w3 ⟨g3, rfl, hg3, s3, hb3⟩; obtain ⟨hc3, hf3, hl3, hz3⟩ := bfacts hb3; have S3 := Lib.hid s3; clear s3) | (go_at_call 82; (refine Calls.mono (l04Ok_two r b 0 _ 0 A1 (some ⟨g3, 0, none⟩) m c1 2 2 ⟨ps, [0, 0], p⟩ _ (HRU.out.later (by (repeat' (first | (with_reducible exact Below.refl _ _) | (with_reducible assumption) | (with_reducible refine Below.alloc ?_ ?_ _) | (with_reducible refine Below.drew ?_) | (with_reducible refine belowDrewN ?_ _) | (with_reducible refine Below.setCell ?_ ?_ _) | (with_reducible refine Below.via (by with_reducible assumption) ?_ ?_) | (with_reducible refine Below.viaD (by with_reducible assumption) ?_ ?_) | (with_reducible exact Below.size (by with_reducible assumption)) | go_size | (with_reducible refine Nat.le_trans ?_ (Below.size (by with_reducible assumption))) | (with_reducible refine Nat.le_trans ?_ (sizeAlloc _ _)) | (with_reducible refine Nat.le_trans ?_ (sizeSet _ _ _)) | (with_reducible refine Nat.le_trans ?_ (sizeDrew _)))))) (posBlk (t := 49) (Blk.new _ _ _) (HSL.out.later (by (repeat' (first | (with_reducible exact Below.refl _ _) | (with_reducible assumption) | (with_reducible refine Below.alloc ?_ ?_ _) | (with_reducible refine Below.drew ?_) | (with_reducible refine belowDrewN ?_ _) | (with_reducible refine Below.setCell ?_ ?_ _) | (with_reducible refine Below.via (by with_reducible assumption) ?_ ?_) | (with_reducible refine Below.viaD (by with_reducible assumption) ?_ ?_) | (with_reducible exact Below.size (by with_reducible assumption)) | go_size | (with_reducible refine Nat.le_trans ?_ (Below.size (by with_reducible assumption))) | (with_reducible refine Nat.le_trans ?_ (sizeAlloc _ _)) | (with_reducible refine Nat.le_trans ?_ (sizeSet _ _ _)) | (with_reducible refine Nat.le_trans ?_ (sizeDrew _)))))) (S3.out.later (by (repeat' (first | (with_reducible exact Below.refl _ _) | (with_reducible assumption) | (with_reducible refine Below.alloc ?_ ?_ _) | (with_reducible refine Below.drew ?_) | (with_reducible refine belowDrewN ?_ _) | (with_reducible refine Below.setCell ?_ ?_ _) | (with_reducible refine Below.via (by with_reducible assumption) ?_ ?_) | (with_reducible refine Below.viaD (by with_reducible assumption) ?_ ?_) | (with_reducible exact Below.size (by with_reducible assumption)) | go_size | (with_reducible refine Nat.le_trans ?_ (Below.size (by with_reducible assumption))) | (with_reducible refine Nat.le_trans ?_ (sizeAlloc _ _)) | (with_reducible refine Nat.le_trans ?_ (sizeSet _ _ _)) | (with_reducible refine Nat.le_trans ?_ (sizeDrew _))))))) ⟨hm2, by show (2 : Nat) ≤ _; omega⟩) ?_); rintro e w4 ⟨rfl, m4, rfl⟩; rw [H1.out]) | (go_at_call 42; refine (l00In_any _ _ _ _).mono ?_; rintro e w_ ⟨rfl, rfl⟩) | (go_at_call 90; refine (l16Value_any _ _).mono ?_; rintro e w_ ⟨rfl, rfl⟩))
              refine wp_region_held_drew (S := (fun W => W.cell? ⟨b2, off + k * 6 + 1, none⟩ = some (.slice A1 m c1) ∧ W.cell? ⟨b2, off + k * 6 + 2, none⟩ = some (.int .i64 p) ∧ W.cell? ⟨b, 9, none⟩ = some (.slice (some ⟨b2, off, none⟩) n c) ∧ Below w.heap.size w W)) (by kernel_rfl) ?hS19 (fun hHeld => ?_)
              case hS19 => (try dsimp only); (first | (with_reducible assumption) | (exact HS0.out _ (by (repeat' (first | (with_reducible exact Below.refl _ _) | (with_reducible assumption) | (with_reducible refine Below.alloc ?_ ?_ _) | (with_reducible refine Below.drew ?_) | (with_reducible refine belowDrewN ?_ _) | (with_reducible refine Below.setCell ?_ ?_ _) | (with_reducible refine Below.via (by with_reducible assumption) ?_ ?_) | (with_reducible refine Below.viaD (by with_reducible assumption) ?_ ?_) | (with_reducible exact Below.size (by with_reducible assumption)) | go_size | (with_reducible refine Nat.le_trans ?_ (Below.size (by with_reducible assumption))) | (with_reducible refine Nat.le_trans ?_ (sizeAlloc _ _)) | (with_reducible refine Nat.le_trans ?_ (sizeSet _ _ _)) | (with_reducible refine Nat.le_trans ?_ (sizeDrew _)))))))
              refine H_take (i := 0) (v := ?v20) rfl (by kernel_rfl) (by kernel_rfl) (by kernel_rfl) (fun _ _ _ h => h) (by rfl) ?hy20 (by assumption) ?_
              case hy20 => (intro w hSw; (try dsimp only at hSw); go_simp; first | done | with_reducible rfl | (trace_state; fail))
              try simp only [Act.put, List.setIfInBounds_toArray, List.set_cons_zero, List.set_cons_succ]
              refine H_take (i := 1) (v := ?v21) rfl (by kernel_rfl) (by kernel_rfl) (by kernel_rfl) (fun _ _ _ h => h) (by rfl) ?hy21 (by assumption) ?_
              case hy21 => (intro w hSw; (try dsimp only at hSw); go_simp; first | done | with_reducible rfl | (trace_state; fail))
              try simp only [Act.put, List.setIfInBounds_toArray, List.set_cons_zero, List.set_cons_succ]
              refine H_take (i := 2) (v := ?v22) rfl (by kernel_rfl) (by kernel_rfl) (by kernel_rfl) (fun _ _ _ h => h) (by rfl) ?hy22 (by assumption) ?_
              case hy22 => (intro w hSw; (try dsimp only at hSw); go_simp; first | done | with_reducible rfl | (trace_state; fail))
              try simp only [Act.put, List.setIfInBounds_toArray, List.set_cons_zero, List.set_cons_succ]
              refine H_take (i := 3) (v := ?v23) rfl (by kernel_rfl) (by kernel_rfl) (by kernel_rfl) (fun _ _ _ h => h) (by rfl) ?hy23 (by assumption) ?_
              case hy23 => (intro w hSw; (try dsimp only at hSw); go_simp; first | done | with_reducible rfl | (trace_state; fail))
              try simp only [Act.put, List.setIfInBounds_toArray, List.set_cons_zero, List.set_cons_succ]
              refine H_take (i := 4) (v := ?v24) rfl (by kernel_rfl) (by kernel_rfl) (by kernel_rfl) (fun _ _ _ h => h) (by rfl) ?hy24 (by assumption) ?_
              case hy24 => (intro w hSw; (try dsimp only at hSw); go_simp; first | done | with_reducible rfl | (trace_state; fail))
              try simp only [Act.put, List.setIfInBounds_toArray, List.set_cons_zero, List.set_cons_succ]
              refine H_take (i := 5) (v := ?v25) rfl (by kernel_rfl) (by kernel_rfl) (by kernel_rfl) (fun _ _ _ h => h) (by rfl) ?hy25 (by assumption) ?_
              case hy25 => (intro w hSw; (try dsimp only at hSw); go_simp; first | done | with_reducible rfl | (trace_state; fail))
              try simp only [Act.put, List.setIfInBounds_toArray, List.set_cons_zero, List.set_cons_succ]
              refine H_take (i := 6) (v := ?v26) rfl (by kernel_rfl) (by kernel_rfl) (by kernel_rfl) (fun _ _ _ h => h) (by rfl) ?hy26 (by assumption) ?_
              case hy26 => (intro w hSw; (try dsimp only at hSw); go_simp; first | done | with_reducible rfl | (trace_state; fail))
              try simp only [Act.put, List.setIfInBounds_toArray, List.set_cons_zero, List.set_cons_succ]
              refine H_take (i := 7) (v := ?v27) rfl (by kernel_rfl) (by kernel_rfl) (by kernel_rfl) (fun _ _ _ h => h) (by rfl) ?hy27 (by assumption) ?_
              case hy27 => (intro w hSw; (try dsimp only at hSw); go_simp; first | done | with_reducible rfl | (trace_state; fail))
              try simp only [Act.put, List.setIfInBounds_toArray, List.set_cons_zero, List.set_cons_succ]
              refine H_take (i := 8) (v := ?v28) rfl (by kernel_rfl) (by kernel_rfl) (by kernel_rfl) (fun _ _ _ h => h) (by rfl) ?hy28 (by assumption) ?_
              case hy28 => (intro w hSw; (try dsimp only at hSw); go_simp; first | done | with_reducible rfl | (trace_state; fail))
              try simp only [Act.put, List.setIfInBounds_toArray, List.set_cons_zero, List.set_cons_succ]
              refine H_take (i := 9) (v := ?v29) rfl (by kernel_rfl) (by kernel_rfl) (by kernel_rfl) (fun _ _ _ h => h) (by rfl) ?hy29 (by assumption) ?_
              case hy29 => (intro w hSw; (try dsimp only at hSw); go_simp; first | done | with_reducible rfl | (trace_state; fail))
              try simp only [Act.put, List.setIfInBounds_toArray, List.set_cons_zero, List.set_cons_succ]
              refine H_take (i := 10) (v := ?v30) rfl (by kernel_rfl) (by kernel_rfl) (by kernel_rfl) (fun _ _ _ h => h) (by rfl) ?hy30 (by assumption) ?_
              case hy30 => (intro w hSw; (try dsimp only at hSw); go_simp; first | done | with_reducible rfl | (trace_state; fail))
              try simp only [Act.put, List.setIfInBounds_toArray, List.set_cons_zero, List.set_cons_succ]
              refine H_take (i := 11) (v := ?v31) rfl (by kernel_rfl) (by kernel_rfl) (by kernel_rfl) (fun _ _ _ h => h) (by rfl) ?hy31 (by assumption) ?_
              case hy31 => (intro w hSw; (try dsimp only at hSw); go_simp; first | done | with_reducible rfl | (trace_state; fail))
              try simp only [Act.put, List.setIfInBounds_toArray, List.set_cons_zero, List.set_cons_succ]
              refine H_take (i := 12) (v := ?v32) rfl (by kernel_rfl) (by kernel_rfl) (by kernel_rfl) (fun _ _ _ h => h) (by rfl) ?hy32 (by assumption) ?_
              case hy32 => (intro w hSw; (try dsimp only at hSw); go_simp; first | done | with_reducible rfl | (trace_state; fail))
              try simp only [Act.put, List.setIfInBounds_toArray, List.set_cons_zero, List.set_cons_succ]
              refine H_take (i := 14) (v := ?v33) rfl (by kernel_rfl) (by kernel_rfl) (by kernel_rfl) (fun _ _ _ h => h) (by rfl) ?hy33 (by assumption) ?_
              case hy33 => (intro w hSw; (try dsimp only at hSw); go_simp; first | done | with_reducible rfl | (trace_state; fail))
              try simp only [Act.put, List.setIfInBounds_toArray, List.set_cons_zero, List.set_cons_succ]
              refine H_call (i := 13) rfl (by kernel_rfl) (fun K hK => ?_)
              go_simp
              (go_at_call 83; (with_reducible refine Calls.mono (HH.out (by simp) _ ?_) ?_); (exact hHeld.2.2.2); rintro e w7 ⟨rfl, rfl⟩)
              refine hK.out _ _ ?hS34 (fun hHeld => ?_)
              case hS34 => (try dsimp only); (first | (with_reducible assumption) | (exact HS0.out _ (by (repeat' (first | (with_reducible exact Below.refl _ _) | (with_reducible assumption) | (with_reducible refine Below.alloc ?_ ?_ _) | (with_reducible refine Below.drew ?_) | (with_reducible refine belowDrewN ?_ _) | (with_reducible refine Below.setCell ?_ ?_ _) | (with_reducible refine Below.via (by with_reducible assumption) ?_ ?_) | (with_reducible refine Below.viaD (by with_reducible assumption) ?_ ?_) | (with_reducible exact Below.size (by with_reducible assumption)) | go_size | (with_reducible refine Nat.le_trans ?_ (Below.size (by with_reducible assumption))) | (with_reducible refine Nat.le_trans ?_ (sizeAlloc _ _)) | (with_reducible refine Nat.le_trans ?_ (sizeSet _ _ _)) | (with_reducible refine Nat.le_trans ?_ (sizeDrew _)))))))
              clear hK K
              try simp only [Act.put, List.setIfInBounds_toArray, List.set_cons_zero, List.set_cons_succ]
              refine H_take (i := 15) (v := ?v35) rfl (by kernel_rfl) (by kernel_rfl) (by kernel_rfl) (fun _ _ _ h => h) (by rfl) ?hy35 (by assumption) ?_
              case hy35 => (intro w hSw; (try dsimp only at hSw); go_simp; first | done | with_reducible rfl | (trace_state; fail))
              try simp only [Act.put, List.setIfInBounds_toArray, List.set_cons_zero, List.set_cons_succ]
              refine H_take (i := 16) (v := ?v36) rfl (by kernel_rfl) (by kernel_rfl) (by kernel_rfl) (fun _ _ _ h => h) (by rfl) ?hy36 (by assumption) ?_
              case hy36 => (intro w hSw; (try dsimp only at hSw); go_simp; first | done | with_reducible rfl | (trace_state; fail))
              try simp only [Act.put, List.setIfInBounds_toArray, List.set_cons_zero, List.set_cons_succ]
              refine wpAnyH_done (by kernel_rfl) ?_ _
              have hB := hHeld.2.2.2
              go_wp2_with fail
              go_ret
              exact ⟨rfl, hB⟩
end Go.Proofs.Ytpcenpedbdenmaa
