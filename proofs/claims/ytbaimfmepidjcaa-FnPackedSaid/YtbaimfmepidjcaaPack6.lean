/- Lists packed by the program. Conditions: lists below 2^20. -/
import Derived.Test.YtbaimfmepidjcaaPack5
import Derived.Test.YtbaimfmepidjcaaHeld
namespace Go.Proofs.Ytbaimfmepidjcaa
set_option linter.unusedSimpArgs false
set_option linter.unusedVariables false
open Go.RowKit Go.WideShapes

def packV (zs : List Int) : Value := if okItems zs then .tuple #[.string ⟨(packL zs).toArray⟩, .int .i64 0] else .tuple #[.string ⟨#[]⟩, .int .i64 2]
theorem packV_yes {zs : List Int} (h : okItems zs = true) : packV zs = .tuple #[.string ⟨(packL zs).toArray⟩, .int .i64 0] := by rw [packV, if_pos h]
theorem packV_no {zs : List Int} (h : okItems zs = false) : packV zs = .tuple #[.string ⟨#[]⟩, .int .i64 2] := by rw [packV, h]; rfl
theorem Blk.far' {w w' : World} {g : Nat} {t : TypeId} {cs : Array Value} {row : Option Nat} (h : Blk w g t cs) (hg : w.grownBy w' row) (hne : some g ≠ row) : Blk w' g t cs := (hg.block g h.lt hne).trans h
theorem boxedP (w : World) (o : Obj) : Below w.heap.size w (w.alloc o) := Below.alloc (Below.refl _ _) (Nat.le_refl _) o
theorem own_ne {w : World} {base : Nat} {e : TypeId} {size : Nat} {v : Value} {n : Nat} {xs : List Value} (h : w.ownsRow base e size v n xs) {k : Nat} (hk : w.heap.size ≤ k) : some k ≠ v.ownBlock := fun he => by
  have := (h.lt k he.symm).2
  omega
/-- Rows owned, the first above a mark of the second's making. -/
theorem Sl.grow_far {w w' : World} {n : Nat} {A : Option Addr} {xs : List Value} {row : Option Nat} (h : Sl w w.heap.size 1 A n xs) (hg : w.grownBy w' row) (hne : ∀ b off, A = some ⟨b, off, none⟩ → some b ≠ row) : Sl w' w'.heap.size 1 A n xs :=
  ⟨h.1, fun hn => by
    obtain ⟨b, off, e, hb, hc⟩ := h.2 hn
    refine ⟨b, off, e, Nat.lt_of_lt_of_le hb hg.size, fun j u hu => ?_⟩
    have hk := hg.block b hb (hne b off e)
    rw [← hc j u hu]
    simp only [World.cell?, hk]⟩
set_option maxRecDepth 100000 in
set_option maxHeartbeats 8000000 in
theorem PackList_any (A : Option Addr) (n c : Nat) (zs : List Int) (w : World) (hs : Sl w w.heap.size 1 A n (zs.map (Value.int .i64))) (hn : n ≤ 1048576) : Calls Try.prog 19 #[.slice A n c] w fun e w' => e = .returned (packV zs) ∧ Below w.heap.size w w' := by
  cases hok : okItems zs
  case false =>
    rw [packV_no hok]
    have HOK := Lib.hid hok
    clear hok
    go_enter Try.func19, Try.ntmps19
    go_wp2_with fail
    refine (RunsOf_any A n c zs w hs hn).mono ?_
    rintro e w1 ⟨-, h2, hb1⟩
    obtain rfl := h2 HOK.out
    clear h2
    go_wp2_with fail
    go_ret2
    exact ⟨rfl, hb1⟩
  case true =>
    rw [packV_yes hok]
    obtain ⟨i0, ti, tz0, tz1, tz2⟩ := info_parts info_u8
    have hn4 := okItems_len hok
    have hrc := runs_count hok
    have hit := runs_items hok
    have HPK : Hid (packL zs = bodyR (runsL zs) ++ tailL (bodyR (runsL zs))) := rfl
    obtain ⟨rs, hrs⟩ : ∃ rs, runsL zs = rs := ⟨_, rfl⟩
    rw [hrs] at hrc hit HPK
    have HRS := Lib.hid hrs
    have HIT := Lib.hid hit
    have HC := Lib.hid hrc.1
    have hr4 : rs.length ≤ 4000 := hrc.2
    have HBL := Lib.hid (bodyK_len hrc.1 hit)
    have HS := Lib.hid hs
    have HOK := Lib.hid hok
    clear hs hok hrs hit hrc
    go_enter Try.func19, Try.ntmps19
    go_wp2_with fail
    refine (RunsOf_any A n c zs w HS.out hn).mono ?_
    rintro e w1 ⟨h1, -, hb1⟩
    obtain ⟨rv, rfl, hrow⟩ := h1 HOK.out
    clear h1
    rw [HRS.out] at hrow
    obtain ⟨RA, rg, rcap, rfl, -, -, -, hov⟩ := own_of_row hrow
    have HSL := Lib.hid hov.sl
    have HB1 := Lib.hid hb1
    have hsz1 := hb1.size
    clear hrow hov hb1
    go_wp2_with fail
    refine (put_any (rs.length : Nat) HC.out _).mono ?_
    rintro e w2 ⟨v0, q0, rfl, hown0, hq0, hb2⟩
    have HO0 : Hid (w2.ownsRow w1.heap.size 5 1 v0 (bodyK rs 0).length (bV (bodyK rs 0))) := by
      have e0 : bodyK rs 0 = putL (rs.length : Nat) := by rw [bodyK]; simp
      unfold Hid
      rw [e0, ← hq0]
      exact hown0
    have hsz2 := hb2.size
    clear hown0 hq0
    go_wp2_with fail
    go_loopw [6, 23] (fun v i wr => ∃ k : Nat, k ≤ rs.length ∧ i = .int .i64 k ∧ wr.ownsRow w1.heap.size 5 1 v (bodyK rs k).length (bV (bodyK rs k)) ∧ Below w1.heap.size w1 wr) (fun _ i _ => rs.length - (intOf i).toNat)
    case atStart => exact ⟨0, Nat.zero_le _, rfl, HO0.out, hb2⟩
    case round =>
      obtain ⟨k, hk, rfl, hown, hbl⟩ := hrel
      have hbs := hbl.size
      have hkl := HBL.out k hk
      have HW := Lib.hid hown
      clear hown
      by_cases hlt : k < rs.length
      case pos =>
        obtain ⟨b, off, rfl, hb', hc⟩ := (HSL.out.below hbl).2 (by omega)
        have hk0 := hc _ _ (rV_at hlt).1
        have hk1 := hc _ _ (rV_at hlt).2
        rw [← Nat.add_assoc] at hk1
        have hmm := HIT.out _ (getD_mem (0, 0) hlt)
        have HSU := Lib.hid (bodyK_succ hlt)
        obtain ⟨⟨x, t⟩, hxt⟩ : ∃ p, rs.getD k (0, 0) = p := ⟨_, rfl⟩
        rw [hxt] at hk0 hk1 hmm HSU
        clear hc hxt
        simp only at hk0 hk1 hmm HSU
        have px := put_item_len hmm.1
        have pt := put_item_len hmm.2
        have HX := Lib.hid hmm.1
        have HT := Lib.hid hmm.2
        clear hmm
        obtain ⟨q, hq⟩ : ∃ q, (bodyK rs k).length = q := ⟨_, rfl⟩
        have HQ := Lib.hid hq
        rw [hq] at hkl HW
        clear hq
        go_wp2_with fail
        refine wp_region_held_drew (S := (fun W => Blk W wr.heap.size 37 #[.int .i64 x, .int .i64 t] ∧ Below w1.heap.size w1 W)) (by kernel_rfl) ?_ (fun hHeld => ?_)
        focus ((try dsimp only); (first | (exact ⟨hHeld.1.later hb_, Below.via hb_ hHeld.2 hHeld.2.size⟩) | (exact ⟨hHeld.1.far' hg_ hne_, hbn_⟩) | (exact ⟨Blk.new wr _ _, belowDrewN (Below.via (boxedP wr _) hbl hbs) 1⟩)))
        refine H_take (i := 0) (v := ?_) rfl (by kernel_rfl) (by kernel_rfl) (by kernel_rfl) (fun _ _ _ h => h) (by rfl) ?_ (by assumption) ?_
        rotate_left
        focus (intro w hSw; obtain ⟨hblk, -⟩ := hSw; have bc0 := hblk.cell 0; have bc1 := hblk.cell 1; simp only [List.getElem?_toArray, List.getElem?_cons_zero, List.getElem?_cons_succ] at bc0 bc1; clear hblk; go_simp; first | done | with_reducible rfl | (trace_state; fail))
        try simp only [Act.put, List.setIfInBounds_toArray, List.set_cons_zero, List.set_cons_succ]
        refine H_take (i := 1) (v := ?_) rfl (by kernel_rfl) (by kernel_rfl) (by kernel_rfl) (fun _ _ _ h => h) (by rfl) ?_ (by assumption) ?_
        rotate_left
        focus (intro w hSw; obtain ⟨hblk, -⟩ := hSw; have bc0 := hblk.cell 0; have bc1 := hblk.cell 1; simp only [List.getElem?_toArray, List.getElem?_cons_zero, List.getElem?_cons_succ] at bc0 bc1; clear hblk; go_simp; first | done | with_reducible rfl | (trace_state; fail))
        try simp only [Act.put, List.setIfInBounds_toArray, List.set_cons_zero, List.set_cons_succ]
        refine H_take (i := 2) (v := ?_) rfl (by kernel_rfl) (by kernel_rfl) (by kernel_rfl) (fun _ _ _ h => h) (by rfl) ?_ (by assumption) ?_
        rotate_left
        focus (intro w hSw; obtain ⟨hblk, -⟩ := hSw; have bc0 := hblk.cell 0; have bc1 := hblk.cell 1; simp only [List.getElem?_toArray, List.getElem?_cons_zero, List.getElem?_cons_succ] at bc0 bc1; clear hblk; go_simp; first | done | with_reducible rfl | (trace_state; fail))
        try simp only [Act.put, List.setIfInBounds_toArray, List.set_cons_zero, List.set_cons_succ]
        refine H_take (i := 5) (v := ?_) rfl (by kernel_rfl) (by kernel_rfl) (by kernel_rfl) (fun _ _ _ h => h) (by rfl) ?_ (by assumption) ?_
        rotate_left
        focus (intro w hSw; obtain ⟨hblk, -⟩ := hSw; have bc0 := hblk.cell 0; have bc1 := hblk.cell 1; simp only [List.getElem?_toArray, List.getElem?_cons_zero, List.getElem?_cons_succ] at bc0 bc1; clear hblk; go_simp; first | done | with_reducible rfl | (trace_state; fail))
        try simp only [Act.put, List.setIfInBounds_toArray, List.set_cons_zero, List.set_cons_succ]
        refine H_take (i := 6) (v := ?_) rfl (by kernel_rfl) (by kernel_rfl) (by kernel_rfl) (fun _ _ _ h => h) (by rfl) ?_ (by assumption) ?_
        rotate_left
        focus (intro w hSw; obtain ⟨hblk, -⟩ := hSw; have bc0 := hblk.cell 0; have bc1 := hblk.cell 1; simp only [List.getElem?_toArray, List.getElem?_cons_zero, List.getElem?_cons_succ] at bc0 bc1; clear hblk; go_simp; first | done | with_reducible rfl | (trace_state; fail))
        try simp only [Act.put, List.setIfInBounds_toArray, List.set_cons_zero, List.set_cons_succ]
        refine H_call (i := 3) rfl (by kernel_rfl) (fun K hK => ?_)
        go_simp
        (go_at_call 31; (with_reducible refine Calls.mono (put_any x HX.out _) ?_); rintro e W3 ⟨v3, q3, rfl, ho3, hq3, hb_⟩; obtain ⟨A3, g3, cap3, rfl, hgb3, -, -, hv3⟩ := own_of_row ho3; have HS3 := Lib.hid hv3.sl; have hqb3 : q3 ≤ 3 := (by omega); have HQ3 := Lib.hid hq3; have hbx3 := (Below.via hb_ hHeld.2 hHeld.2.size).size; have hbz3 := hb_.size; clear ho3 hv3 hq3; have HO3 := Lib.hid (row_below HW.out (Below.trans (boxedP wr (.cells #[.int .i64 x, .int .i64 t] 37)) (Below.mono (Below.undrew hb_) (sizeAlloc _ _)))))
        refine hK.out _ _ ?_ (fun hHeld => ?_)
        focus ((try dsimp only); (first | (exact ⟨hHeld.1.later hb_, Below.via hb_ hHeld.2 hHeld.2.size⟩) | (exact ⟨hHeld.1.far' hg_ hne_, hbn_⟩) | (exact ⟨Blk.new wr _ _, belowDrewN (Below.via (boxedP wr _) hbl hbs) 1⟩)))
        clear hK K
        try simp only [Act.put, List.setIfInBounds_toArray, List.set_cons_zero, List.set_cons_succ]
        refine H_call (i := 4) rfl (by kernel_rfl) (fun K hK => ?_)
        (refine step_append_sl _ (by rfl) _ _ 28 (by rfl) w1.heap.size 5 i0 _ 1 1 Try.underlying28 ti tz0 tz1 tz2 rfl (by decide) _ (q) (bV (bodyK rs k)) (by rfl) HO3.out _ A3 q3 cap3 (bV (putL x)) (by rfl) HS3.out (bV_one _) (by unfold maxLen; omega) (by omega) (by omega) ?_; intro v4 W4 ho4 hg_ hbk_; have hne_ : some wr.heap.size ≠ Value.ownBlock _ := own_ne HW.out (Nat.le_refl _); have hbn_ : Below w1.heap.size w1 W4 := below_app hHeld.2 HO3.out hg_ (Nat.le_refl _) hHeld.2.size; have HA4 := Lib.hid ho4; clear ho4; have hne2 : some wr.heap.size ≠ Value.ownBlock v4 := (by rcases hbk_ with h | h; (rw [h]; exact hne_); (rw [h]; intro he; injection he; simp at hbz3; omega)))
        refine hK.out _ _ ?_ (fun hHeld => ?_)
        focus ((try dsimp only); (first | (exact ⟨hHeld.1.later hb_, Below.via hb_ hHeld.2 hHeld.2.size⟩) | (exact ⟨hHeld.1.far' hg_ hne_, hbn_⟩) | (exact ⟨Blk.new wr _ _, belowDrewN (Below.via (boxedP wr _) hbl hbs) 1⟩)))
        clear hK K
        try simp only [Act.put, List.setIfInBounds_toArray, List.set_cons_zero, List.set_cons_succ]
        refine H_call (i := 7) rfl (by kernel_rfl) (fun K hK => ?_)
        go_simp
        (go_at_call 31; (with_reducible refine Calls.mono (put_any t HT.out _) ?_); rintro e W7 ⟨v7, q7, rfl, ho7, hq7, hb_⟩; obtain ⟨A7, g7, cap7, rfl, hgb7, -, -, hv7⟩ := own_of_row ho7; have HS7 := Lib.hid hv7.sl; have hqb7 : q7 ≤ 3 := (by omega); have HQ7 := Lib.hid hq7; have hbx7 := (Below.via hb_ hHeld.2 hHeld.2.size).size; have hbz7 := hb_.size; clear ho7 hv7 hq7; have HO7 := Lib.hid (row_below HA4.out hb_))
        refine hK.out _ _ ?_ (fun hHeld => ?_)
        focus ((try dsimp only); (first | (exact ⟨hHeld.1.later hb_, Below.via hb_ hHeld.2 hHeld.2.size⟩) | (exact ⟨hHeld.1.far' hg_ hne_, hbn_⟩) | (exact ⟨Blk.new wr _ _, belowDrewN (Below.via (boxedP wr _) hbl hbs) 1⟩)))
        clear hK K
        try simp only [Act.put, List.setIfInBounds_toArray, List.set_cons_zero, List.set_cons_succ]
        refine H_call (i := 8) rfl (by kernel_rfl) (fun K hK => ?_)
        (refine step_append_sl _ (by rfl) _ _ 28 (by rfl) w1.heap.size 5 i0 _ 1 1 Try.underlying28 ti tz0 tz1 tz2 rfl (by decide) _ (q + q3) (bV (bodyK rs k) ++ bV (putL x)) (by rfl) HO7.out _ A7 q7 cap7 (bV (putL t)) (by rfl) HS7.out (bV_one _) (by unfold maxLen; omega) (by omega) (by omega) ?_; intro v8 W8 ho8 hg_ hbk_; have hne_ : some wr.heap.size ≠ Value.ownBlock _ := hne2; have hbn_ : Below w1.heap.size w1 W8 := below_app hHeld.2 HO7.out hg_ (Nat.le_refl _) hHeld.2.size; have HA8 := Lib.hid ho8; clear ho8; skip)
        refine hK.out _ _ ?_ (fun hHeld => ?_)
        focus ((try dsimp only); (first | (exact ⟨hHeld.1.later hb_, Below.via hb_ hHeld.2 hHeld.2.size⟩) | (exact ⟨hHeld.1.far' hg_ hne_, hbn_⟩) | (exact ⟨Blk.new wr _ _, belowDrewN (Below.via (boxedP wr _) hbl hbs) 1⟩)))
        clear hK K
        try simp only [Act.put, List.setIfInBounds_toArray, List.set_cons_zero, List.set_cons_succ]
        refine H_take (i := 9) (v := ?_) rfl (by kernel_rfl) (by kernel_rfl) (by kernel_rfl) (fun _ _ _ h => h) (by rfl) ?_ (by assumption) ?_
        rotate_left
        focus (intro w hSw; obtain ⟨hblk, -⟩ := hSw; have bc0 := hblk.cell 0; have bc1 := hblk.cell 1; simp only [List.getElem?_toArray, List.getElem?_cons_zero, List.getElem?_cons_succ] at bc0 bc1; clear hblk; go_simp; first | done | with_reducible rfl | (trace_state; fail))
        try simp only [Act.put, List.setIfInBounds_toArray, List.set_cons_zero, List.set_cons_succ]
        refine wpAnyH_done (by kernel_rfl) ?_ _
        have HB8 := Lib.hid hHeld.2
        have HR8 : Hid (W8.ownsRow w1.heap.size 5 1 v8 (bodyK rs (k + 1)).length (bV (bodyK rs (k + 1)))) := by
          have h := HA8.out
          rw [← bV_app, ← bV_app, ← HSU.out] at h
          have e : (bodyK rs (k + 1)).length = q + q3 + q7 := by rw [HSU.out, List.length_append, List.length_append, HQ.out, HQ3.out, HQ7.out]
          unfold Hid
          rw [e]
          exact h
        clear hHeld hne2 hg_ hne_ hbn_ hbk_
        go_wp2_with fail
        go_roundw
        case rel => exact ⟨k + 1, by omega, by go_num, HR8.out, HB8.out⟩
        case measure => first | (simp [intOf]; done) | (simp [intOf]; omega)
      case neg =>
        obtain rfl : k = rs.length := by omega
        rw [bodyK_all] at HW hkl
        have hcv := row_string HW.out 28 5 9 Try.underlying28 Try.underlying5 Try.underlying9
        obtain ⟨L, hL⟩ : ∃ L, bodyR rs = L := ⟨_, rfl⟩
        rw [hL] at hkl HW hcv HPK
        obtain ⟨q, hq⟩ : ∃ q, L.length = q := ⟨_, rfl⟩
        have hLs : (⟨L.toArray⟩ : ByteArray).size ≤ 1073741824 := by rw [mk_size]; omega
        rw [hq] at hkl HW
        clear hq hL
        have hsl := sumL_lt L
        have HSUM : Hid (sumL (⟨L.toArray⟩ : ByteArray).data.toList = sumL L) := rfl
        have HTL := Lib.hid (bV_tail L)
        go_wp2_with (first | (go_at_call 32; refine (ChecksumOf_any ⟨L.toArray⟩ _ hLs).mono ?_; rintro e w_ ⟨rfl, rfl⟩; rw [HSUM.out]) | (at_builtin; refine wpList_append_sl _ rfl _ _ 28 rfl w1.heap.size 5 i0 _ 1 1 Try.underlying28 ti tz0 tz1 tz2 rfl (by decide) _ q (bV L) rfl (HW.out.alloc _) (wr.heap.size + 1) _ 2 2 [.int .u8 ((sumL L : Nat) / 256 : Int), .int .u8 ((sumL L : Nat) % 256 : Int)] rfl (Sl.built (by simp) (by simp) rfl) ?c1 ?c2 ?c3 ?c4 ?_))
        case c1 => intro u hu; simp at hu; rcases hu with rfl | rfl <;> rfl
        case c2 => unfold maxLen; omega
        case c3 => omega
        case c4 => simp; omega
        intro v3 w3 hown3 hg3 _
        have hB3 : Below w1.heap.size w1 w3 := below_app (by (repeat' (first | (with_reducible exact Below.refl _ _) | (with_reducible assumption) | (with_reducible refine Below.alloc ?_ ?_ _) | (with_reducible refine Below.drew ?_) | (with_reducible refine belowDrewN ?_ _) | (with_reducible refine Below.setCell ?_ ?_ _) | (with_reducible refine Below.via (by with_reducible assumption) ?_ ?_) | (with_reducible refine Below.viaD (by with_reducible assumption) ?_ ?_) | (with_reducible exact Below.size (by with_reducible assumption)) | go_size | (with_reducible refine Nat.le_trans ?_ (Below.size (by with_reducible assumption))) | (with_reducible refine Nat.le_trans ?_ (sizeAlloc _ _)) | (with_reducible refine Nat.le_trans ?_ (sizeSet _ _ _)) | (with_reducible refine Nat.le_trans ?_ (sizeDrew _))))) (HW.out.alloc _) hg3 (Nat.le_refl _) (by simp; omega)
        have hrow3 : w3.ownsRow w1.heap.size 5 1 v3 (q + 2) (bV (packL zs)) := by rw [HPK.out, bV_app, HTL.out]; exact hown3
        have hcv3 := row_string hrow3 28 5 9 Try.underlying28 Try.underlying5 Try.underlying9
        clear hown3 hg3 hcv hrow3
        go_wp2_with fail
        go_ret2
        exact ⟨rfl, Below.via hB3 HB1.out hsz1⟩
end Go.Proofs.Ytbaimfmepidjcaa
