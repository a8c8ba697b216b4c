/- Draws of ratings for expectations. Conditions: at most 2^20 bytes. -/
import Derived.Test.YtaeeijjejkohjaaDraw1
import Derived.Test.YtaeeijjejkohjaaRated1
import Derived.Test.YtaeeijjejkohjaaKeeps
namespace Go.Proofs.Ytaeeijjejkohjaa
set_option linter.unusedSimpArgs false
set_option linter.unusedVariables false
open Go.RowKit Go.WideShapes Go.ChangeShapes

def Big6 (n : Nat) (w : World) (e : Ending) (w' : World) : Prop := ∃ q, e = .returned (.bool q) ∧ (q = false → n ≤ 4096) ∧ w = w'
theorem f6big_any (A : Option Addr) (n c : Nat) (w : World) : Calls Try.prog 11 #[.slice A n c] w (Big6 n w) := by
  by_cases h : n ≤ 4096
  · have h2 : decide ((4096 : Int) < n) = false := decide_eq_false (by omega)
    go_enter Try.func11, Try.ntmps11
    go_wp2_with fail
    go_ret
    exact ⟨_, rfl, fun _ => h, rfl⟩
  · have h2 : decide ((4096 : Int) < n) = true := decide_eq_true (by omega)
    go_enter Try.func11, Try.ntmps11
    go_wp2_with fail
    go_ret
    exact ⟨true, rfl, fun h => by simp at h, rfl⟩
/-- A drawn list of ratings. -/
def OthP (b : Nat) (A : Option Addr) (n c M : Nat) (cs : List Int) (w : World) (e : Ending) (w' : World) : Prop :=
  ∃ (zs : List Int) (v : Value), e = .returned v ∧ w'.ownsRow w.heap.size 2 1 v zs.length (zs.map (Value.int .i64)) ∧ zs.length ≤ 101 ∧ Hid (∀ z ∈ zs, -1 ≤ z ∧ z ≤ 4001) ∧ Src w' b A n c (M + 100) cs ∧ w.grownBy w' (some b)
theorem own_ne {w : World} {base : Nat} {e : TypeId} {size : Nat} {v : Value} {n : Nat} {xs : List Value} {b : Nat} (h : w.ownsRow base e size v n xs) (hb : b < base) : v.ownBlock ≠ some b := by
  intro e
  have := (h.lt b e).1
  omega
theorem made_blk (w : World) (t : TypeId) (n : Nat) : Blk (w.alloc (.cells (madeCells #[Value.int .i64 0] n) t)) w.heap.size t (List.replicate n (Value.int .i64 0)).toArray := by
  rw [← made_one]; exact Blk.new _ _ _
theorem row_of_blk {w : World} {g base : Nat} {t : TypeId} {vs : List Value} (h : Blk w g t vs.toArray) (hb : base ≤ g) (hm : vs.length ≤ maxLen) : w.ownsRow base t 1 (.slice (some ⟨g, 0, none⟩) vs.length vs.length) vs.length vs :=
  ⟨by simp, .inr ⟨g, vs.length, vs.toArray, rfl, hb, h, Nat.le_refl _, hm, by simp, by simp⟩⟩
set_option maxRecDepth 4000 in
set_option maxHeartbeats 4000000 in
theorem l25DrawOthers_any (b : Nat) (A : Option Addr) (n c M : Nat) (cs : List Int) (w : World) (h : Src w b A n c M cs) (hn : n ≤ 1048576) (hM : M ≤ 999990000) :
    Calls Try.prog 51 #[.pointer (some ⟨b, 0, none⟩)] w (OthP b A n c M cs w) := by
  obtain ⟨i0, hi, hz0, hz1, hz2⟩ := info_parts info_int64r
  have HI := Lib.hid (And.intro hi (And.intro hz0 (And.intro hz1 hz2)))
  clear hi hz0 hz1 hz2
  have hbl := h.lt
  have HAB := Lib.hid h.aBelow
  have HO0 := Lib.hid (World.ownsRow_made (e := 2) (size := 1) (base := w.heap.size) w #[] 0 (Nat.le_refl _) (Nat.zero_le _) rfl)
  have HS0 := Lib.hid (h.later (Below.alloc (Below.refl _ _) (Nat.le_refl _) (.cells #[] 2)))
  clear h
  go_enter Try.func51, Try.ntmps51
  go_wp2_with fail
  refine (pick_any b A n c M cs 8 _ HS0.out hn (by omega) (by omega)).mono ?_
  rintro e w1 ⟨x, rfl, hx0, hx1, -, S1, g1⟩
  have hx8 := hx1 (by omega)
  obtain ⟨kk, rfl⟩ := Int.eq_ofNat_of_zero_le hx0
  have HS1 := Lib.hid S1
  have HG1 := Lib.hid (grown_tr (grown_alloc (World.grownBy.refl _ _) (.cells #[] 2)) g1)
  have HO1 := Lib.hid (own_over HO0.out g1 (own_ne HO0.out hbl))
  clear S1 g1 hx1
  go_wp2_with fail
  go_loopw [3, 4] (fun v i wr => ∃ (k j : Nat) (zs : List Int), i = .int .i64 k ∧ k + j = kk ∧ Src wr b A n c (M + 2 + 8 * j) cs ∧ wr.ownsRow w.heap.size 2 1 v zs.length (zs.map (Value.int .i64)) ∧ zs.length = j ∧ Hid (∀ z ∈ zs, -1 ≤ z ∧ z ≤ 4001) ∧ w.grownBy wr (some b)) (fun _ i _ => (intOf i).toNat)
  case atStart => exact ⟨kk, 0, [], rfl, by omega, HS1.out, HO1.out, rfl, by unfold Hid; simp, HG1.out⟩
  case round =>
    obtain ⟨k, j, zs, rfl, hkj, hS, hown, hzl, hall, hg⟩ := hrel
    have HSr := Lib.hid hS
    have HO := Lib.hid hown
    have HG := Lib.hid hg
    have hgs := hg.size
    clear hS hown hg
    by_cases hk : 0 < k
    case pos =>
      go_wp2_with fail
      refine (l25Draw_any b A n c (M + 2 + 8 * j) cs _ HSr.out hn (by omega)).mono ?_
      rintro e w2 ⟨r, g, rfl, hr0, hr1, hg0, hg1, S2, g2⟩
      have HS2 := Lib.hid (S2.later (Below.alloc (Below.refl _ _) (Nat.le_refl _) (.cells #[.int .i64 r, .int .i64 g] 24)))
      have HG2 := Lib.hid (grown_alloc (grown_tr HG.out g2) (.cells #[.int .i64 r, .int .i64 g] 24))
      have HO2 := Lib.hid (row_below (own_over HO.out g2 (own_ne HO.out hbl)) (Below.alloc (Below.refl _ _) (Nat.le_refl _) (.cells #[.int .i64 r, .int .i64 g] 24)))
      have X2 := Lib.hid (Blk.new w2 24 #[.int .i64 r, .int .i64 g])
      have x0 := X2.out.cell 0
      have z2 := HG2.out.size
      have z2' : w.heap.size ≤ w2.heap.size := Nat.le_trans hgs g2.size
      clear S2 g2
      go_wp2_with (at_builtin; refine wpList_append_sl _ rfl _ _ 35 rfl w.heap.size 2 i0 _ 1 8 Try.underlying35 HI.out.1 HI.out.2.1 HI.out.2.2.1 HI.out.2.2.2 rfl (by decide) _ zs.length (zs.map (Value.int .i64)) rfl (HO2.out.alloc _) (w2.heap.size + 2) _ 1 1 [.int .i64 r] rfl (Sl.built (by simp) (by simp) rfl) ?c1 ?c2 ?c3 ?c4 ?_)
      case c1 => intro u hu; simp at hu; subst hu; rfl
      case c2 => unfold maxLen; omega
      case c3 => omega
      case c4 => simp; omega
      intro v' w4 hown4 hg4 hob4
      have HS4 := Lib.hid ((HS2.out.later (Below.alloc (Below.refl _ _) (Nat.le_refl _) (.cells #[.int .i64 r] 2))).over hg4 (own_ne (HO2.out.alloc (.cells #[.int .i64 r] 2)) hbl) (fun b' off e h => by
        intro h2
        have h3 := ((HO2.out.alloc (.cells #[.int .i64 r] 2)).lt b' h2).1
        have h4 := HAB.out b' off e h
        omega))
      have HG4 : Hid (w.grownBy w4 (some b)) := by
        unfold Hid
        have h1 := grown_alloc HG2.out (.cells #[.int .i64 r] 2)
        exact ⟨hg4.os.trans h1.os, hg4.tape.trans h1.tape, hg4.output.trans h1.output, Nat.le_trans h1.size hg4.size, fun q hq hne => (hg4.block q (Nat.lt_of_lt_of_le hq h1.size) (fun e => by have := ((HO2.out.alloc (.cells #[.int .i64 r] 2)).lt q e.symm).1; omega)).trans (h1.block q hq hne)⟩
      have HO4 := Lib.hid hown4
      have HAL : Hid (∀ z ∈ zs ++ [r], -1 ≤ z ∧ z ≤ 4001) := by
        unfold Hid
        intro z hz
        rcases List.mem_append.1 hz with h | h
        · exact hall.out z h
        · rw [List.mem_singleton.1 h]; omega
      clear hown4 hg4 hob4
      go_wp2_with fail
      go_roundw
      case rel => exact ⟨k - 1, j + 1, zs ++ [r], by go_num, by omega, HS4.out.mono (by omega), by rw [List.map_append, List.length_append, hzl]; exact HO4.out, by rw [List.length_append, hzl]; rfl, HAL.out, HG4.out⟩
      case measure => first | (simp [intOf]; done) | (simp [intOf]; omega)
    case neg =>
      obtain rfl : k = 0 := by omega
      go_wp2_with fail
      refine (one_any b A n c (M + 2 + 8 * j) cs 24 _ HSr.out hn (by omega) (by omega)).mono ?_
      rintro e w2 ⟨q, rfl, S2, g2⟩
      have HS2 := Lib.hid S2
      have HG2 := Lib.hid (grown_tr HG.out g2)
      have HO2 := Lib.hid (own_over HO.out g2 (own_ne HO.out hbl))
      clear S2 g2
      cases q
      case false =>
        go_wp2_with fail
        go_ret
        exact ⟨zs, _, rfl, HO2.out, by omega, hall.out, HS2.out.mono (by omega), HG2.out⟩
      case true =>
        go_wp2_with fail
        refine (pick_any b A n c (M + 2 + 8 * j + 2) cs 2 _ HS2.out hn (by omega) (by omega)).mono ?_
        rintro e w3 ⟨y, rfl, hy0, hy1, -, S3, g3⟩
        have hy2 := hy1 (by omega)
        obtain ⟨m, rfl⟩ := Int.eq_ofNat_of_zero_le hy0
        obtain ⟨q, hq⟩ : ∃ q : Nat, 100 + m = q := ⟨_, rfl⟩
        have hm : (100 : Int) + (m : Nat) = (q : Nat) := by omega
        have hq3 : q ≤ 101 := by omega
        clear hq
        have HS3 := Lib.hid S3
        have HG3 := Lib.hid (grown_tr HG2.out g3)
        have hmk := fun W => run_makeN (P := Try.prog) 35 2 i0 (.int .i64 0) Try.underlying35 HI.out.1 HI.out.2.1 .i64 .i64 q q (Nat.le_refl _) (by rw [HI.out.2.2.2]; omega) (by omega) W
        rw [HI.out.2.2.1, Nat.mul_one] at hmk
        clear S3 g3 hy1
        go_wp2_with fail
        go_ret
        refine ⟨List.replicate q 0, _, rfl, ?_, by rw [List.length_replicate]; omega, fun z hz => by rw [List.eq_of_mem_replicate hz]; omega, ?_, grown_alloc HG3.out _⟩
        · have hB := fun W : World => made_blk W 2 q
          have hR := row_of_blk (hB w3) HG3.out.size (by rw [List.length_replicate]; unfold maxLen; omega)
          rw [List.length_replicate] at hR
          rw [List.length_replicate, List.map_replicate]
          exact hR
        · exact (HS3.out.later (Below.alloc (Below.refl _ _) (Nat.le_refl _) _)).mono (by omega)
end Go.Proofs.Ytaeeijjejkohjaa
