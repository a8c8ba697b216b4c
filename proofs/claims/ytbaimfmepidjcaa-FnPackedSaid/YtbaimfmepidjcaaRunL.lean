/- FnRuns: the law. No conditions. -/
import Derived.Test.YtbaimfmepidjcaaA2List
import Derived.Test.YtbaimfmepidjcaaLaw1
import Derived.Test.YtbaimfmepidjcaaPack8
import Derived.Test.YtbaimfmepidjcaaPack2
namespace Go.Proofs.Ytbaimfmepidjcaa
set_option linter.unusedSimpArgs false
set_option linter.unusedVariables false
open Go.RowKit Go.WideShapes

theorem okItems_of {zs : List Int} (h : zs.all isItemR = true) (hl : zs.length ≤ 64) : okItems zs = true := by
  rw [okItems, h, Bool.true_and, decide_eq_true_eq]; omega
def NumPost (n : Int) (w : World) (e : Ending) (w' : World) : Prop := ∃ k : Nat, k = (⟨(putL n).toArray⟩ : ByteArray).size ∧ e = .returned (.tuple #[.int .i64 n, .int .i64 ((2 + k : Nat) : Int), .int .i64 0]) ∧ Below w.heap.size w w'
theorem getNum_of {n : Int} (hn : isItemR n = true) (S : ByteArray) (hS : S.data.toList = 97 :: 98 :: (putL n ++ [99])) (w : World) : Calls Try.prog 18 #[.string S, .int .i64 2] w (NumPost n w) := by
  have hl := put_item_len hn
  have hsz : S.size = (putL n).length + 3 := by
    have := congrArg List.length hS
    simp at this
    omega
  refine (GetNumber_any S 2 w (by omega) (by omega)).mono ?_
  rw [hS, List.drop_succ_cons, List.drop_succ_cons, List.drop_zero, getI_put _ hn]
  rintro e w' ⟨rfl, hb⟩
  exact ⟨(putL n).length, (mk_size _).symm, rfl, hb⟩
set_option maxRecDepth 100000 in
set_option maxHeartbeats 4000000 in
theorem runs_walk (A0 : Option Addr) (n0 c0 : Nat) (zs0 : List Int) (A1 : Option Addr) (n1 c1 : Nat) (zs1 : List Int) (w : World) (hs0 : Sl w w.heap.size 1 A0 n0 (zs0.map (Value.int .u8))) (hm0 : n0 ≤ 9223372036854775807) (hb0 : ∀ z ∈ zs0, 0 ≤ z ∧ z ≤ 255) (hs1 : Sl w w.heap.size 1 A1 n1 (zs1.map (Value.int .u8))) (hm1 : n1 ≤ 9223372036854775807) (hb1 : ∀ z ∈ zs1, 0 ≤ z ∧ z ≤ 255) :
    Calls Try.prog 4 #[.slice A0 n0 c0, .slice A1 n1 c1] w fun e w' => e = .returned (.bool true) ∧ Below w.heap.size w w' := by
  have HB0 := Lib.hid hb0
  have HB1 := Lib.hid hb1
  have HS1 := Lib.hid hs1
  have HS0 := Lib.hid hs0
  clear hb0 hb1 hs1 hs0
  go_enter Try.func4, Try.ntmps4
  go_wp2_with fail
  refine (a2Long_any _ _ _ _ _ _ _).mono ?_
  rintro e w_ ⟨q, rfl, hq, rfl⟩
  cases q
  case true =>
    go_wp2
    go_ret
    exact ⟨rfl, by (repeat' (first | (with_reducible exact Below.refl _ _) | (with_reducible assumption) | (with_reducible refine Below.alloc ?_ ?_ _) | (with_reducible refine Below.drew ?_) | (with_reducible refine belowDrewN ?_ _) | (with_reducible refine Below.setCell ?_ ?_ _) | (with_reducible refine Below.via (by with_reducible assumption) ?_ ?_) | (with_reducible refine Below.viaD (by with_reducible assumption) ?_ ?_) | (with_reducible exact Below.size (by with_reducible assumption)) | go_size | (with_reducible refine Nat.le_trans ?_ (Below.size (by with_reducible assumption))) | (with_reducible refine Nat.le_trans ?_ (sizeAlloc _ _)) | (with_reducible refine Nat.le_trans ?_ (sizeSet _ _ _)) | (with_reducible refine Nat.le_trans ?_ (sizeDrew _))))⟩
  case false =>
    obtain ⟨h0, h1⟩ := hq rfl
    clear hq
    go_wp2_with fail
    refine (A2List_any A0 n0 c0 zs0 _ HS0.out HB0.out (by omega)).mono ?_
    rintro e w1 ⟨v, zs, rfl, ho, hit, hlen, b1⟩
    have HOK := Lib.hid (okItems_of hit hlen)
    obtain ⟨A, g, cap, rfl, hg, hcap, hcapm, hov⟩ := own_of_row ho
    have HZ : Hid (Sl w1 w1.heap.size 1 A zs.length (zs.map (Value.int .i64))) := hov.sl
    clear ho hov hit hcap hcapm
    obtain ⟨n, hn⟩ : ∃ n, zs.length = n := ⟨_, rfl⟩
    rw [hn] at HZ hlen
    have HN := Lib.hid hn
    rw [hn]
    clear hn
    go_wp2_with fail
    refine (RunsOf_any A n cap zs _ HZ.out (by omega)).mono ?_
    rintro e w2 ⟨r1, r2, b2⟩
    obtain ⟨v2, rfl, ho2⟩ := r1 HOK.out
    obtain ⟨A2, g2, cap2, rfl, hg2, hcap2, hcapm2, hov2⟩ := own_of_row ho2
    have hrl := runs_count HOK.out
    have hrl2 := (good_runs zs).len
    rw [HN.out] at hrl2
    have HR : Hid (Sl w2 w2.heap.size 2 A2 (runsL zs).length (rV (runsL zs))) := hov2.sl
    have HF := Lib.hid (fromRuns_runs HOK.out)
    have HP := Lib.hid (parted_runs zs)
    obtain ⟨rs, hrs⟩ : ∃ rs, runsL zs = rs := ⟨_, rfl⟩
    rw [hrs] at HR HF HP hrl2
    rw [hrs]
    obtain ⟨n2, hn2⟩ : ∃ n2, rs.length = n2 := ⟨_, rfl⟩
    rw [hn2] at HR hrl2
    rw [hn2]
    have HN2 := Lib.hid hn2
    clear r1 r2 ho2 hov2 hcap2 hcapm2 hrl hrs hn2
    go_wp2_with fail
    refine (FromRuns_any A2 n2 cap2 rs _ HR.out HN2.out (by omega)).mono ?_
    rintro e w3 ⟨f1, f2, b3⟩
    obtain ⟨v3, rfl, ho3⟩ := f1 zs HF.out
    obtain ⟨A3, g3, cap3, rfl, hg3, hcap3, hcapm3, hov3⟩ := own_of_row ho3
    rw [HN.out] at hov3
    have HY : Hid (Sl w3 w3.heap.size 1 A3 n (zs.map (Value.int .i64))) := hov3.sl
    have HZ3 := Lib.hid ((HZ.out.later b2).later b3)
    have HR3 := Lib.hid (HR.out.later b3)
    rw [HN.out]
    have bw3 : Below w.heap.size w w3 := by (repeat' (first | (with_reducible exact Below.refl _ _) | (with_reducible assumption) | (with_reducible refine Below.alloc ?_ ?_ _) | (with_reducible refine Below.drew ?_) | (with_reducible refine belowDrewN ?_ _) | (with_reducible refine Below.setCell ?_ ?_ _) | (with_reducible refine Below.via (by with_reducible assumption) ?_ ?_) | (with_reducible refine Below.viaD (by with_reducible assumption) ?_ ?_) | (with_reducible exact Below.size (by with_reducible assumption)) | go_size | (with_reducible refine Nat.le_trans ?_ (Below.size (by with_reducible assumption))) | (with_reducible refine Nat.le_trans ?_ (sizeAlloc _ _)) | (with_reducible refine Nat.le_trans ?_ (sizeSet _ _ _)) | (with_reducible refine Nat.le_trans ?_ (sizeDrew _))))
    clear f1 f2 ho3 hov3 hcap3 hcapm3 HZ HR
    go_wp2_with (go_at_call 15; refine (a2Numbers_any A3 A n cap3 n cap zs _ HY.out HZ3.out (by omega)).mono ?_; rintro e w4 ⟨rfl, b4⟩)
    have HR4 := Lib.hid (HR3.out.later b4)
    have bw4 : Below w.heap.size w w4 := by (repeat' (first | (with_reducible exact Below.refl _ _) | (with_reducible assumption) | (with_reducible refine Below.alloc ?_ ?_ _) | (with_reducible refine Below.drew ?_) | (with_reducible refine belowDrewN ?_ _) | (with_reducible refine Below.setCell ?_ ?_ _) | (with_reducible refine Below.via (by with_reducible assumption) ?_ ?_) | (with_reducible refine Below.viaD (by with_reducible assumption) ?_ ?_) | (with_reducible exact Below.size (by with_reducible assumption)) | go_size | (with_reducible refine Nat.le_trans ?_ (Below.size (by with_reducible assumption))) | (with_reducible refine Nat.le_trans ?_ (sizeAlloc _ _)) | (with_reducible refine Nat.le_trans ?_ (sizeSet _ _ _)) | (with_reducible refine Nat.le_trans ?_ (sizeDrew _))))
    clear HR3 HY HZ3
    go_loopw [10] (fun i wr => ∃ k : Nat, i = .int .i64 ((k : Int) + 1) ∧ k ≤ n2 ∧ Below w4.heap.size w4 wr) (fun i _ => n2 + 2 - (intOf i).toNat)
    case atStart => exact ⟨0, rfl, by omega, by (repeat' (first | (with_reducible exact Below.refl _ _) | (with_reducible assumption) | (with_reducible refine Below.alloc ?_ ?_ _) | (with_reducible refine Below.drew ?_) | (with_reducible refine belowDrewN ?_ _) | (with_reducible refine Below.setCell ?_ ?_ _) | (with_reducible refine Below.via (by with_reducible assumption) ?_ ?_) | (with_reducible refine Below.viaD (by with_reducible assumption) ?_ ?_) | (with_reducible exact Below.size (by with_reducible assumption)) | go_size | (with_reducible refine Nat.le_trans ?_ (Below.size (by with_reducible assumption))) | (with_reducible refine Nat.le_trans ?_ (sizeAlloc _ _)) | (with_reducible refine Nat.le_trans ?_ (sizeSet _ _ _)) | (with_reducible refine Nat.le_trans ?_ (sizeDrew _))))⟩
    case round =>
      obtain ⟨k, rfl, hk, hb⟩ := hrel
      rename World => wo
      by_cases hlt : k + 1 < n2
      case pos =>
        obtain ⟨b5, off, x, t, rfl, hb5, HX, hk0, hk1⟩ := run_cells HR4.out hb HN2.out hlt
        obtain ⟨b5', off', y, t', e5, hb5', HX', hk0', hk1'⟩ := run_cells HR4.out hb HN2.out (show k < n2 by omega)
        injection e5 with e5
        injection e5 with e5 e6
        subst e5 e6
        have hpa := parted_at HP.out k (by rw [HN2.out]; exact hlt)
        rw [HX.out, HX'.out] at hpa
        have hne : (x == y) = false := by rw [beq_eq_false_iff_ne]; exact hpa
        clear hpa hk1 hk1' HX HX'
        go_wp2
        first | (refine wp_region_quiet_lit (by kernel_rfl) (by kernel_rfl) ?_; refine WQ.of ?_; (repeat (refine WQ.step (fun K hK => ?_); go_simp; first | (refine hK _ ?_; clear hK K) | (apply Exists.intro; refine ⟨fun _ => ?_, hK _ ?_⟩; (fail); clear hK K))); refine WQ.nil ?_; intro _ hw'; obtain ⟨nq, hw''⟩ := hw'; subst hw'') | go_quiet (fail)
        go_wp2
        go_roundw
        case rel => exact ⟨k + 1, by first | rfl | go_num | (congr 1; omega), by omega, by (repeat' (first | (with_reducible exact Below.refl _ _) | (with_reducible assumption) | (with_reducible refine Below.alloc ?_ ?_ _) | (with_reducible refine Below.drew ?_) | (with_reducible refine belowDrewN ?_ _) | (with_reducible refine Below.setCell ?_ ?_ _) | (with_reducible refine Below.via (by with_reducible assumption) ?_ ?_) | (with_reducible refine Below.viaD (by with_reducible assumption) ?_ ?_) | (with_reducible exact Below.size (by with_reducible assumption)) | go_size | (with_reducible refine Nat.le_trans ?_ (Below.size (by with_reducible assumption))) | (with_reducible refine Nat.le_trans ?_ (sizeAlloc _ _)) | (with_reducible refine Nat.le_trans ?_ (sizeSet _ _ _)) | (with_reducible refine Nat.le_trans ?_ (sizeDrew _))))⟩
        case measure => first | (simp [intOf]; done) | (simp [intOf]; omega)
      case neg =>
        have hs1' := HS1.out.later (show Below w.heap.size w wo by (repeat' (first | (with_reducible exact Below.refl _ _) | (with_reducible assumption) | (with_reducible refine Below.alloc ?_ ?_ _) | (with_reducible refine Below.drew ?_) | (with_reducible refine belowDrewN ?_ _) | (with_reducible refine Below.setCell ?_ ?_ _) | (with_reducible refine Below.via (by with_reducible assumption) ?_ ?_) | (with_reducible refine Below.viaD (by with_reducible assumption) ?_ ?_) | (with_reducible exact Below.size (by with_reducible assumption)) | go_size | (with_reducible refine Nat.le_trans ?_ (Below.size (by with_reducible assumption))) | (with_reducible refine Nat.le_trans ?_ (sizeAlloc _ _)) | (with_reducible refine Nat.le_trans ?_ (sizeSet _ _ _)) | (with_reducible refine Nat.le_trans ?_ (sizeDrew _)))))
        have HS1' := Lib.hid hs1'
        clear hs1'
        go_wp2_with fail
        refine (a2At_any A1 n1 c1 0 256 zs1 _ HS1'.out HB1.out h1 (by omega) (by omega) (by omega)).mono ?_
        rintro e w_ ⟨x, rfl, hx, hx2, rfl⟩
        go_wp2_with fail
        have hit : isItemR ((x : Int) * 7000 - 900000) = true := by rw [isItemR, decide_eq_true_eq]; omega
        have HIT := Lib.hid hit
        have HGN := Lib.hid (fun S hS W => getNum_of hit S hS W)
        clear hit
        refine (PutNumber_any _ HIT.out _).mono ?_
        rintro e w5 ⟨rfl, b5⟩
        obtain ⟨m, hm⟩ : ∃ m, (x : Int) * 7000 - 900000 = m := ⟨_, rfl⟩
        rw [hm] at HGN ⊢
        have HL : Hid ((putL m).length ≤ 1000) := by
          have h := (put_item_len HIT.out).2
          rw [hm] at h
          unfold Hid
          omega
        clear hm
        have bw5 : Below w.heap.size w w5 := by (repeat' (first | (with_reducible exact Below.refl _ _) | (with_reducible assumption) | (with_reducible refine Below.alloc ?_ ?_ _) | (with_reducible refine Below.drew ?_) | (with_reducible refine belowDrewN ?_ _) | (with_reducible refine Below.setCell ?_ ?_ _) | (with_reducible refine Below.via (by with_reducible assumption) ?_ ?_) | (with_reducible refine Below.viaD (by with_reducible assumption) ?_ ?_) | (with_reducible exact Below.size (by with_reducible assumption)) | go_size | (with_reducible refine Nat.le_trans ?_ (Below.size (by with_reducible assumption))) | (with_reducible refine Nat.le_trans ?_ (sizeAlloc _ _)) | (with_reducible refine Nat.le_trans ?_ (sizeSet _ _ _)) | (with_reducible refine Nat.le_trans ?_ (sizeDrew _))))
        obtain ⟨T, hT⟩ : ∃ T, putL m = T := ⟨_, rfl⟩
        rw [hT] at HGN HL
        have hl := HL.out
        go_wp2_with fail
        refine Calls.mono (HGN.out _ ?_ _) ?_
        · simp
        rintro e w6 ⟨kk, hkk, rfl, b6⟩
        rw [hT] at hkk
        have hkl : (⟨T.toArray⟩ : ByteArray).size = T.length := mk_size T
        rw [hkl] at hkk
        subst hkk
        have bw6 : Below w.heap.size w w6 := by (repeat' (first | (with_reducible exact Below.refl _ _) | (with_reducible assumption) | (with_reducible refine Below.alloc ?_ ?_ _) | (with_reducible refine Below.drew ?_) | (with_reducible refine belowDrewN ?_ _) | (with_reducible refine Below.setCell ?_ ?_ _) | (with_reducible refine Below.via (by with_reducible assumption) ?_ ?_) | (with_reducible refine Below.viaD (by with_reducible assumption) ?_ ?_) | (with_reducible exact Below.size (by with_reducible assumption)) | go_size | (with_reducible refine Nat.le_trans ?_ (Below.size (by with_reducible assumption))) | (with_reducible refine Nat.le_trans ?_ (sizeAlloc _ _)) | (with_reducible refine Nat.le_trans ?_ (sizeSet _ _ _)) | (with_reducible refine Nat.le_trans ?_ (sizeDrew _))))
        clear hT
        go_wp2
        go_ret
        refine ⟨?_, bw6⟩
        have e9 : ((2 + (T.length : Int)) == (T.length : Int) + 2) = true := by rw [beq_iff_eq]; omega
        exact congrArg (fun q => Ending.returned (Value.bool q)) e9
end Go.Proofs.Ytbaimfmepidjcaa
