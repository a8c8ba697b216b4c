/- Lists packed by the reference. Conditions: lists that can be packed. -/
import Derived.Test.YtbaimfmepidjcaaPack4
import Derived.Test.YtbaimfmepidjcaaMarkRow
namespace Go.Proofs.Ytbaimfmepidjcaa
set_option linter.unusedSimpArgs false
set_option linter.unusedVariables false
open Go.RowKit Go.WideShapes

def bodyK (rs : List (Int × Int)) (k : Nat) : List UInt8 := putL rs.length ++ (rs.take k).flatMap fun r => putL r.1 ++ putL r.2
theorem bodyK_succ {rs : List (Int × Int)} {k : Nat} (h : k < rs.length) : bodyK rs (k + 1) = (bodyK rs k ++ putL (rs.getD k (0, 0)).1) ++ putL (rs.getD k (0, 0)).2 := by
  rw [bodyK, bodyK, take_succ_getD (0, 0) h, List.flatMap_append]
  simp [List.append_assoc]
theorem bodyK_all (rs : List (Int × Int)) : bodyK rs rs.length = bodyR rs := by rw [bodyK, List.take_length]; rfl
theorem bodyK_len {rs : List (Int × Int)} (h0 : isItemR (rs.length : Nat) = true) (h : ∀ q ∈ rs, isItemR q.1 = true ∧ isItemR q.2 = true) : ∀ k, k ≤ rs.length → 1 ≤ (bodyK rs k).length ∧ (bodyK rs k).length ≤ 3 + 6 * k
  | 0, _ => by have := put_item_len h0; rw [bodyK]; simp; omega
  | k + 1, hk => by
    have ih := bodyK_len h0 h k (by omega)
    have hm := h _ (getD_mem (0, 0) (show k < rs.length by omega))
    have h1 := put_item_len hm.1
    have h2 := put_item_len hm.2
    rw [bodyK_succ (by omega), List.length_append, List.length_append]
    omega
theorem strCells_bV (l : List UInt8) : Lib.strCells ⟨l.toArray⟩ = bV l := rfl
theorem mk_size (l : List UInt8) : (⟨l.toArray⟩ : ByteArray).size = l.length := by simp [ByteArray.size]
theorem bV_tail (L : List UInt8) : bV (tailL L) = [.int .u8 ((sumL L : Nat) / 256 : Int), .int .u8 ((sumL L : Nat) % 256 : Int)] := by
  have h := sumL_lt L
  simp only [bV, tailL, List.map_cons, List.map_nil, UInt8.toNat_ofNat']
  rw [Nat.mod_eq_of_lt (show sumL L / 256 < 2 ^ 8 by omega), Nat.mod_eq_of_lt (show sumL L % 256 < 2 ^ 8 by omega)]
  simp
set_option maxRecDepth 100000 in
set_option maxHeartbeats 4000000 in
theorem l14Pack_any (A : Option Addr) (n c : Nat) (zs : List Int) (w : World) (hs : Sl w w.heap.size 1 A n (zs.map (Value.int .i64))) (hok : okItems zs = true) : Calls Try.prog 25 #[.slice A n c] w fun e w' => e = .returned (.string ⟨(packL zs).toArray⟩) ∧ Below w.heap.size w w' := by
  obtain ⟨i0, ti, tz0, tz1, tz2⟩ := info_parts info_u8
  have hl := hs.ints
  have hn4 := okItems_len hok
  have hrc := runs_count hok
  have hit := runs_items hok
  have HPK : Hid (packL zs = bodyR (runsL zs) ++ tailL (bodyR (runsL zs))) := rfl
  obtain ⟨rs, hrs⟩ : ∃ rs, runsL zs = rs := ⟨_, rfl⟩
  rw [hrs] at hrc hit HPK
  have HRS := Lib.hid hrs
  have HIT := Lib.hid hit
  have HC := Lib.hid hrc.1
  have hr4 : rs.length ≤ 4000 := hrc.2
  have HBL := Lib.hid (bodyK_len hrc.1 hit)
  have HS := Lib.hid hs
  clear hs hok hrs hit hrc
  have hl0 := put_item_len HC.out
  go_enter Try.func25, Try.ntmps25
  go_wp2_with fail
  refine (l14Runs_any A n c zs w HS.out (by omega)).mono ?_
  rintro e w1 ⟨rv, rfl, hrow, hb1⟩
  rw [HRS.out] at hrow
  obtain ⟨RA, rg, rcap, rfl, _, _, _, hov⟩ := own_of_row hrow
  have HSL := Lib.hid hov.sl
  clear hrow hov
  go_wp2_with fail
  obtain ⟨S0, hS0⟩ : ∃ S : ByteArray, S = ⟨(putL (rs.length : Nat)).toArray⟩ := ⟨_, rfl⟩
  refine (l14Put_any (rs.length : Nat) HC.out _).mono ?_
  rintro e w2 ⟨rfl, hb2⟩
  rw [← hS0]
  have hcb := fun W => run_bytes_of_string (P := Try.prog) W 9 28 5 S0 Try.underlying9 Try.underlying28 Try.underlying5
  have hsz : S0.size = (putL (rs.length : Nat)).length := by rw [hS0, mk_size]
  have hdt : S0.data.toList = putL (rs.length : Nat) := by rw [hS0]
  have HRB : Hid (RowB (w2.drew.alloc (.cells (bytesRow S0 (grownCap w2 S0.size 0 5)) 5 ((bytesRow S0 (grownCap w2 S0.size 0 5)).size, (bytesRow S0 (grownCap w2 S0.size 0 5)).size + 1))) w2.heap.size 5 (.slice (some ⟨w2.heap.size, 0, none⟩) S0.size (grownCap w2 S0.size 0 5)) S0.size (bV (bodyK rs 0))) := by
    have h := rowB_conv (w := w2) (base := w2.heap.size) 5 S0 (Nat.le_refl _) (by unfold maxLen; omega)
    rw [hdt] at h
    have e0 : bodyK rs 0 = putL (rs.length : Nat) := by rw [bodyK]; simp
    rw [e0]
    exact h
  have HSZ : Hid (S0.size = (bodyK rs 0).length) := by unfold Hid; rw [hsz, bodyK]; simp
  have HS2 := Lib.hid (HSL.out.later hb2)
  have HB2 : Hid (Below w.heap.size w w2) := Below.via hb2 hb1 hb1.size
  have hsz2 := HB2.out.size
  clear hS0 hsz hdt hb2 hb1 HSL
  go_wp2_with fail
  go_loopw [4, 5] (fun v i wr => ∃ (k q : Nat), k ≤ rs.length ∧ i = .int .i64 k ∧ q = (bodyK rs k).length ∧ RowB wr w2.heap.size 5 v q (bV (bodyK rs k)) ∧ Below w2.heap.size w2 wr) (fun _ i _ => rs.length - (intOf i).toNat)
  case atStart => exact ⟨0, _, Nat.zero_le _, rfl, HSZ.out, HRB.out, by (repeat' (first | (with_reducible exact Below.refl _ _) | (with_reducible assumption) | (with_reducible refine Below.alloc ?_ ?_ _) | (with_reducible refine Below.drew ?_) | (with_reducible refine belowDrewN ?_ _) | (with_reducible refine Below.setCell ?_ ?_ _) | (with_reducible refine Below.via (by with_reducible assumption) ?_ ?_) | (with_reducible refine Below.viaD (by with_reducible assumption) ?_ ?_) | (with_reducible exact Below.size (by with_reducible assumption)) | go_size | (with_reducible refine Nat.le_trans ?_ (Below.size (by with_reducible assumption))) | (with_reducible refine Nat.le_trans ?_ (sizeAlloc _ _)) | (with_reducible refine Nat.le_trans ?_ (sizeSet _ _ _)) | (with_reducible refine Nat.le_trans ?_ (sizeDrew _))))⟩
  case round =>
    obtain ⟨k, q, hk, rfl, hq, hown, hbl⟩ := hrel
    have hbs := hbl.size
    have hkl := HBL.out k hk
    rw [← hq] at hkl
    have HW := Lib.hid hown
    clear hown hcb
    by_cases hlt : k < rs.length
    case pos =>
      obtain ⟨b, off, rfl, hb', hc⟩ := (HS2.out.below hbl).2 (by omega)
      have hk0 := hc _ _ (rV_at hlt).1
      have hk1 := hc _ _ (rV_at hlt).2
      rw [← Nat.add_assoc] at hk1
      have hmm := HIT.out _ (getD_mem (0, 0) hlt)
      have HSU := Lib.hid (bodyK_succ hlt)
      obtain ⟨⟨x, t⟩, hxt⟩ : ∃ p, rs.getD k (0, 0) = p := ⟨_, rfl⟩
      rw [hxt] at hk0 hk1 hmm HSU
      clear hc hxt
      simp only at hk0 hk1 hmm HSU
      have px := put_item_len hmm.1
      have pt := put_item_len hmm.2
      have HX := Lib.hid hmm.1
      have HT := Lib.hid hmm.2
      have HQ := Lib.hid hq
      clear hmm hq
      go_wp2_with fail
      refine (l14Put_any x HX.out _).mono ?_
      rintro e w3 ⟨rfl, hb3⟩
      have HW3 := Lib.hid (HW.out.later hb3)
      have hbs3 := hb3.size
      have k1' : w3.cell? ⟨b, off + k * 2 + 1, none⟩ = some (.int .i64 t) := (hb3.cell (p := ⟨b, _, none⟩) (by show b < _; omega)).trans hk1
      go_wp2_with (at_builtin; refine wpList_append_rowB _ rfl _ _ 28 9 rfl w2.heap.size 5 i0 Try.underlying28 ti tz0 tz1 tz2 _ q (bV (bodyK rs k)) rfl HW3.out _ rfl (putL x).length (bV (putL x)) (bV_len _) (bV_one _) (Or.inl ⟨_, Try.underlying9, rfl, mk_size _, (strCells_bV _).symm⟩) ?c1 ?c2 ?c3 ?_)
      case c1 => unfold maxLen; omega
      case c2 => omega
      case c3 => omega
      intro v4 w4 hown4 hg4 _
      have hB3 : Below w2.heap.size w2 w3 := by (repeat' (first | (with_reducible exact Below.refl _ _) | (with_reducible assumption) | (with_reducible refine Below.alloc ?_ ?_ _) | (with_reducible refine Below.drew ?_) | (with_reducible refine belowDrewN ?_ _) | (with_reducible refine Below.setCell ?_ ?_ _) | (with_reducible refine Below.via (by with_reducible assumption) ?_ ?_) | (with_reducible refine Below.viaD (by with_reducible assumption) ?_ ?_) | (with_reducible exact Below.size (by with_reducible assumption)) | go_size | (with_reducible refine Nat.le_trans ?_ (Below.size (by with_reducible assumption))) | (with_reducible refine Nat.le_trans ?_ (sizeAlloc _ _)) | (with_reducible refine Nat.le_trans ?_ (sizeSet _ _ _)) | (with_reducible refine Nat.le_trans ?_ (sizeDrew _))))
      have hB4 : Below w2.heap.size w2 w4 := below_appB hB3 HW3.out hg4 (Nat.le_refl _) (by omega)
      have HW4 : Hid (RowB w4 w2.heap.size 5 v4 (q + (putL x).length) (bV (bodyK rs k ++ putL x))) := by unfold Hid; rw [bV_app]; exact hown4
      have k1'' : w4.cell? ⟨b, off + k * 2 + 1, none⟩ = some (.int .i64 t) := by
        obtain ⟨b', off', e', hbb, hc'⟩ := (HS2.out.below hB4).2 (by omega)
        injection e' with e'
        injection e' with e1 e2
        subst e1 e2
        have := hc' _ _ (rV_at hlt).2
        rw [← Nat.add_assoc] at this
        rw [this]
        have h9 := hk1
        obtain ⟨b3, off3, e3, hbb3, hc3⟩ := (HS2.out.below hbl).2 (by omega)
        injection e3 with e3
        injection e3 with e4 e5
        subst e4 e5
        have h8 := hc3 _ _ (rV_at hlt).2
        rw [← Nat.add_assoc] at h8
        exact h8.symm.trans h9
      have hbs4 := hB4.size
      clear hown4 hg4 hk0 hk1 k1' HW3 hb3
      go_wp2_with fail
      refine (l14Put_any t HT.out _).mono ?_
      rintro e w5 ⟨rfl, hb5⟩
      have HW5 := Lib.hid (HW4.out.later hb5)
      have hbs5 := hb5.size
      go_wp2_with (at_builtin; refine wpList_append_rowB _ rfl _ _ 28 9 rfl w2.heap.size 5 i0 Try.underlying28 ti tz0 tz1 tz2 _ (q + (putL x).length) (bV (bodyK rs k ++ putL x)) rfl HW5.out _ rfl (putL t).length (bV (putL t)) (bV_len _) (bV_one _) (Or.inl ⟨_, Try.underlying9, rfl, mk_size _, (strCells_bV _).symm⟩) ?c4 ?c5 ?c6 ?_)
      case c4 => unfold maxLen; omega
      case c5 => omega
      case c6 => omega
      intro v6 w6 hown6 hg6 _
      have hB5 : Below w2.heap.size w2 w5 := Below.via hb5 hB4 hB4.size
      have hB6 : Below w2.heap.size w2 w6 := below_appB hB5 HW5.out hg6 (Nat.le_refl _) (by omega)
      have HW6 : Hid (RowB w6 w2.heap.size 5 v6 (q + (putL x).length + (putL t).length) (bV (bodyK rs (k + 1)))) := by unfold Hid; rw [HSU.out, bV_app]; exact hown6
      have HQ6 : Hid (q + (putL x).length + (putL t).length = (bodyK rs (k + 1)).length) := by unfold Hid; rw [HSU.out, List.length_append, List.length_append, HQ.out]
      clear hown6 hg6 k1'' HW5 hb5
      go_wp2_with fail
      go_roundw
      case rel => exact ⟨k + 1, _, by omega, by go_num, HQ6.out, HW6.out, hB6⟩
      case measure => first | (simp [intOf]; done) | (simp [intOf]; omega)
    case neg =>
      obtain rfl : k = rs.length := by omega
      rw [bodyK_all] at hq HW
      have hcv := rowB_string HW.out 28 5 9 Try.underlying28 Try.underlying5 Try.underlying9
      obtain ⟨L, hL⟩ : ∃ L, bodyR rs = L := ⟨_, rfl⟩
      rw [hL] at hq HW hcv HPK
      have hLs : (⟨L.toArray⟩ : ByteArray).size ≤ 1073741824 := by rw [mk_size]; omega
      clear hq hL
      have hsl := sumL_lt L
      have HSUM : Hid (sumL (⟨L.toArray⟩ : ByteArray).data.toList = sumL L) := rfl
      have HTL := Lib.hid (bV_tail L)
      obtain ⟨g, cap, rfl, hgb, hgl, -⟩ := HW.out.cell
      go_wp2_with (first | (go_at_call 34; refine (l14Sum_any ⟨L.toArray⟩ _ hLs).mono ?_; rintro e w_ ⟨rfl, rfl⟩; rw [HSUM.out]) | (at_builtin; refine wpList_append_rowB _ rfl _ _ 28 28 rfl w2.heap.size 5 i0 Try.underlying28 ti tz0 tz1 tz2 _ q (bV L) rfl (HW.out.later (Below.alloc (Below.refl _ _) (Nat.le_refl _) _)) _ rfl 2 [.int .u8 ((sumL L : Nat) / 256 : Int), .int .u8 ((sumL L : Nat) % 256 : Int)] rfl ?c7 (Or.inr ⟨⟨wr.heap.size, 0, none⟩, 2, rfl, rfl, ?c8⟩) ?c9 ?c10 ?c11 ?_))
      case c7 => intro u hu; simp at hu; rcases hu with rfl | rfl <;> rfl
      case c8 =>
        intro j z hz
        rw [Go.WideShapes.add_plain, Nat.zero_add, (Blk.new wr _ _).cell]
        simpa using hz
      case c9 => unfold maxLen; omega
      case c10 => omega
      case c11 => simp; omega
      intro v3 w3 hown3 hg3 _
      have hB3 : Below w2.heap.size w2 w3 := below_appB (by (repeat' (first | (with_reducible exact Below.refl _ _) | (with_reducible assumption) | (with_reducible refine Below.alloc ?_ ?_ _) | (with_reducible refine Below.drew ?_) | (with_reducible refine belowDrewN ?_ _) | (with_reducible refine Below.setCell ?_ ?_ _) | (with_reducible refine Below.via (by with_reducible assumption) ?_ ?_) | (with_reducible refine Below.viaD (by with_reducible assumption) ?_ ?_) | (with_reducible exact Below.size (by with_reducible assumption)) | go_size | (with_reducible refine Nat.le_trans ?_ (Below.size (by with_reducible assumption))) | (with_reducible refine Nat.le_trans ?_ (sizeAlloc _ _)) | (with_reducible refine Nat.le_trans ?_ (sizeSet _ _ _)) | (with_reducible refine Nat.le_trans ?_ (sizeDrew _))))) (HW.out.later (Below.alloc (Below.refl _ _) (Nat.le_refl _) _)) hg3 (Nat.le_refl _) (by simp; omega)
      have hrow3 : RowB w3 w2.heap.size 5 v3 (q + 2) (bV (packL zs)) := by rw [HPK.out, bV_app, HTL.out]; exact hown3
      have hcv3 := rowB_string hrow3 28 5 9 Try.underlying28 Try.underlying5 Try.underlying9
      clear hown3 hg3 hcv hrow3
      go_wp2_with fail
      go_ret
      exact ⟨rfl, Below.via hB3 HB2.out hsz2⟩
end Go.Proofs.Ytbaimfmepidjcaa
