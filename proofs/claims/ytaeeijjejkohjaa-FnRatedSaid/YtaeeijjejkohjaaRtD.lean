/- Draws of players and games. Conditions: at most 2^20 bytes. -/
import Derived.Test.YtaeeijjejkohjaaMv
import Derived.Test.YtaeeijjejkohjaaRated1
import Derived.Deep.RegionHeld3
namespace Go.Proofs.Ytaeeijjejkohjaa
set_option linter.unusedSimpArgs false
set_option linter.unusedVariables false
open Go.RowKit Go.WideShapes Go.ChangeShapes

theorem info_Rated3 : (Try.prog.info? 24).map (fun i => (i.zero, i.size, i.bytes)) = some (some (.agg #[Value.int .i64 0, .int .i64 0]), 2, 16) := by kernel_rfl
theorem info_Outcome3 : (Try.prog.info? 53).map (fun i => (i.zero, i.size, i.bytes)) = some (some (.agg #[Value.int .i64 0, .int .i64 0, .int .i64 0]), 3, 24) := by kernel_rfl
def LiP (t : TypeId) (b : Nat) (A : Option Addr) (n c M : Nat) (cs : List Int) (w : World) (e : Ending) (w' : World) : Prop :=
  ∃ (v : Value) (j : Nat) (zs : List Int), e = .returned v ∧ j ≤ 101 ∧ MV t 2 w w' b A n c (M + 100) cs v j (zs.map (Value.int .i64))
set_option maxRecDepth 4000 in
set_option maxHeartbeats 4000000 in
theorem l25List_any (b : Nat) (A : Option Addr) (n c M : Nat) (cs : List Int) (w : World) (h : Src w b A n c M cs) (hn : n ≤ 1048576) (hM : M ≤ 999990000) :
    Calls Try.prog 56 #[.pointer (some ⟨b, 0, none⟩)] w (LiP 24 b A n c M cs w) := by
  obtain ⟨i0, hi, hz0, hz1, hz2⟩ := info_parts info_Rated3
  have HI := Lib.hid (And.intro hi (And.intro hz0 (And.intro hz1 hz2)))
  clear hi hz0 hz1 hz2
  have hbl := h.lt
  have HAB := Lib.hid h.aBelow
  have HM0 : Hid (MV 24 2 w (w.alloc (.cells #[] 24)) b A n c M cs (.slice (some ⟨w.heap.size, 0, none⟩) 0 0) 0 []) := ⟨h.later (Below.alloc (Below.refl _ _) (Nat.le_refl _) _), World.ownsRow_made _ _ 0 (Nat.le_refl _) (Nat.zero_le _) rfl, grown_alloc (World.grownBy.refl _ _) _⟩
  clear h
  go_enter Try.func56, Try.ntmps56
  go_wp2_with fail
  refine (pick_any b A n c M cs 7 _ HM0.out.src hn (by omega) (by omega)).mono ?_
  rintro e w1 ⟨x, rfl, hx0, hx1, -, S1, g1⟩
  have hx7 := hx1 (by omega)
  obtain ⟨kk, rfl⟩ := Int.eq_ofNat_of_zero_le hx0
  have HM1 := Lib.hid (HM0.out.draw hbl S1 g1)
  clear S1 g1 hx1 HM0
  go_wp2_with fail
  go_loopw [3, 4] (fun v i wr => ∃ (k j : Nat) (zs : List Int), i = .int .i64 k ∧ k + j = kk ∧ MV 24 2 w wr b A n c (M + 2 + 8 * j) cs v j (zs.map (Value.int .i64))) (fun _ i _ => (intOf i).toNat)
  case atStart => exact ⟨kk, 0, [], rfl, by omega, HM1.out⟩
  case round =>
    obtain ⟨k, j, zs, rfl, hkj, hmv⟩ := hrel
    have HM := Lib.hid hmv
    have hgs := hmv.gr.size
    clear hmv
    by_cases hk : 0 < k
    case pos =>
      go_wp2_with fail
      refine (l25Draw_any b A n c (M + 2 + 8 * j) cs _ HM.out.src hn (by omega)).mono ?_
      rintro e w2 ⟨r, g, rfl, hr0, hr1, hg0, hg1, S2, g2⟩
      have HM2 := Lib.hid ((HM.out.draw hbl S2 g2).alloc (.cells #[.int .i64 r, .int .i64 g] 24))
      have hz2 := HM2.out.gr.size
      clear S2 g2
      go_wp2_with (at_builtin; refine wpList_append_sl _ rfl _ _ 43 rfl w.heap.size 24 i0 _ 2 16 Try.underlying43 HI.out.1 HI.out.2.1 HI.out.2.2.1 HI.out.2.2.2 rfl (by decide) _ j (zs.map (Value.int .i64)) rfl HM2.out.row (w2.heap.size + 1) _ 1 1 [.int .i64 r, .int .i64 g] rfl (Sl.built (by simp) (by simp) rfl) ?c1 ?c2 ?c3 ?c4 ?_)
      case c1 => intro u hu; simp at hu; rcases hu with rfl | rfl <;> rfl
      case c2 => unfold maxLen; omega
      case c3 => omega
      case c4 => exact hz2
      intro v' w4 hown4 hg4 _
      have HM4 := Lib.hid (HM2.out.app hbl HAB.out hown4 hg4)
      clear hown4 hg4
      go_wp2_with fail
      go_roundw
      case rel => exact ⟨k - 1, j + 1, zs ++ [r, g], by go_num, by omega, by rw [List.map_append]; exact HM4.out.mono (by omega)⟩
      case measure => first | (simp [intOf]; done) | (simp [intOf]; omega)
    case neg =>
      obtain rfl : k = 0 := by omega
      go_wp2_with fail
      refine (one_any b A n c (M + 2 + 8 * j) cs 24 _ HM.out.src hn (by omega) (by omega)).mono ?_
      rintro e w2 ⟨q, rfl, S2, g2⟩
      have HM2 := Lib.hid (HM.out.draw hbl S2 g2)
      clear S2 g2
      cases q
      case false =>
        go_wp2_with fail
        go_ret
        exact ⟨_, j, zs, rfl, by omega, HM2.out.mono (by omega)⟩
      case true =>
        go_wp2_with fail
        refine (pick_any b A n c (M + 2 + 8 * j + 2) cs 2 _ HM2.out.src hn (by omega) (by omega)).mono ?_
        rintro e w3 ⟨y, rfl, hy0, hy1, -, S3, g3⟩
        have hy2 := hy1 (by omega)
        obtain ⟨m, rfl⟩ := Int.eq_ofNat_of_zero_le hy0
        obtain ⟨q, hq⟩ : ∃ q : Nat, 100 + m = q := ⟨_, rfl⟩
        have hm : (100 : Int) + (m : Nat) = (q : Nat) := by omega
        have hq3 : q ≤ 101 := by omega
        clear hq
        have HM3 := Lib.hid (HM2.out.draw hbl S3 g3)
        have hmk := fun W => run_makeN (P := Try.prog) 43 24 i0 (.agg #[.int .i64 0, .int .i64 0]) Try.underlying43 HI.out.1 HI.out.2.1 .i64 .i64 q q (Nat.le_refl _) (by rw [HI.out.2.2.2]; omega) (by omega) W
        rw [HI.out.2.2.1] at hmk
        clear S3 g3 hy1
        go_wp2_with fail
        go_ret
        refine ⟨_, q, List.replicate (q * 2) 0, rfl, by omega, ⟨(HM3.out.src.later (Below.alloc (Below.refl _ _) (Nat.le_refl _) _)).mono (by omega), ?_, grown_alloc HM3.out.gr _⟩⟩
        rw [List.map_replicate]
        refine row_of_blkN ?_ HM3.out.gr.size (by rw [List.length_replicate]) (by unfold maxLen; omega)
        rw [← made_two]
        exact Blk.new _ _ _
def StD (w : World) (e : Ending) (w' : World) : Prop := ∃ r g : Int, e = .returned (.agg #[.int .i64 r, .int .i64 g]) ∧ Below w.heap.size w w'
set_option maxHeartbeats 2000000 in
theorem DrawStepOf_any (A : Option Addr) (n c : Nat) (cs : List Int) (w : World) (hs : Sl w w.heap.size 1 A n (cs.map (Value.int .u8))) (hc : ∀ z ∈ cs, 0 ≤ z ∧ z ≤ 255) (hn : n ≤ 1048576) :
    Calls Try.prog 25 #[.slice A n c] w (StD w) := by
  have K0 := Lib.hid (Blk.new w 24 #[.int .i64 0, .int .i64 0])
  have BA := Lib.hid (Below.alloc (Below.refl w.heap.size w) (Nat.le_refl _) (.cells #[.int .i64 0, .int .i64 0] 24))
  have HS := Lib.hid (hs.later BA.out)
  have HC := Lib.hid hc
  have hz0 := BA.out.size
  clear hs hc
  go_enter Try.func25, Try.ntmps25
  go_wp2_with fail
  refine (l00From_any A n c cs _ HS.out HC.out).mono ?_
  rintro e w1 ⟨b, rfl, hb, S1, hb1⟩
  have HS1 := Lib.hid S1
  have HB1 := Lib.hid (Below.via hb1 BA.out hz0)
  have K1 := Lib.hid (K0.out.later hb1)
  have z1 := HB1.out.size
  have hbk : w.heap.size < b := by have : (w.alloc (.cells #[.int .i64 0, .int .i64 0] 24)).heap.size = w.heap.size + 1 := by simp
                                   omega
  clear S1 hb1
  go_wp2_with fail
  refine (l25Draw_any b A n c 0 cs _ HS1.out hn (by omega)).mono ?_
  rintro e w2 ⟨r, g, rfl, hr0, hr1, hg0, hg1, S2, g2⟩
  have HB2 := Lib.hid (below_src HB1.out g2 (by omega) z1)
  have K2 := Lib.hid (blk_over K1.out g2 (by intro e; injection e with e; omega))
  have z2 := HB2.out.size
  clear S2 g2
  have k0 := K2.out.cell 0
  have k1 := K2.out.cell 1
  have f0 := K2.out.free 0
  have f1 := K2.out.free 1
  go_wp2_with fail
  (try simp only [Exit.inBlock, Exit.then])
  refine bodyPost_ret (by simp [results, Try.results25, go_sem, k0, k1, f0, f1]; try rfl) rfl ?_
  exact ⟨r, g, rfl, (HB2.out.setCell (Nat.le_refl _) _).setCell (Nat.le_refl _) _⟩
end Go.Proofs.Ytaeeijjejkohjaa
