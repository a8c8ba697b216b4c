/- FlawName: both functions, and the law. No conditions. -/
import Derived.Test.YtbepfonpfnllkaaDoorG02
import Derived.Test.YtbepfonpfnllkaaDoorG01
import Derived.Laws.BytesArg
import Derived.Laws.IdiomStrings
import Derived.Test.YtbepfonpfnllkaaDoorProg
import Derived.Shelf.Strconv.Itoa4
import Derived.Ground.NamesProg
import Derived.Lib.AppendIntMem
import Derived.Lib.ItoaLen
import Derived.Test.YtbepfonpfnllkaaDoorG00
/- Numbers as bytes and checksums, by both functions. Conditions: numbers in range. -/
namespace Go.Proofs.YtbepfonpfnllkaaDoor
set_option linter.unusedSimpArgs false
set_option linter.unusedVariables false
open Go.RowKit Go.WideShapes

/-- Bytes as cells. -/
def bV (l : List UInt8) : List Value := l.map fun b => .int .u8 (b.toNat : Int)
theorem bV_app (a b : List UInt8) : bV (a ++ b) = bV a ++ bV b := List.map_append
theorem bV_len (a : List UInt8) : (bV a).length = a.length := List.length_map _
theorem bV_one (l : List UInt8) : ∀ u ∈ bV l, u.oneCell' = true := by
  intro u hu
  rw [bV, List.mem_map] at hu
  obtain ⟨b, _, rfl⟩ := hu
  rfl
theorem info_u8 : (Tryd.prog.info? 5).map (fun i => (i.zero, i.size, i.bytes)) = some (some (.int .u8 0), 1, 1) := by kernel_rfl
/-- A row of bytes of the call's own is the result. -/
def RowPost (l : List UInt8) (w : World) (e : Ending) (w' : World) : Prop := ∃ v q, e = .returned v ∧ w'.ownsRow w.heap.size 5 1 v q (bV l) ∧ q = l.length ∧ Below w.heap.size w w'
/-- A row of bytes becomes a string. -/
theorem row_string {w : World} {base : Nat} {v : Value} {q : Nat} {l : List UInt8} (h : w.ownsRow base 5 1 v q (bV l)) (src e dst : TypeId) (hs : Tryd.prog.underlying src = some (.slice e)) (he : Tryd.prog.underlying e = some (.int .u8)) (hd : Tryd.prog.underlying dst = some .string) :
    (convert src dst v).run Tryd.prog w = .ok (.string ⟨l.toArray⟩) w := by
  have hq : q = l.length := by have := h.1; rw [bV_len] at this; omega
  subst hq
  obtain ⟨A, g, cap, rfl, _, _, _, ho⟩ := own_of_row h
  rcases Nat.eq_zero_or_pos l.length with h0 | h0
  · have hl : l = [] := List.eq_nil_of_length_eq_zero h0
    subst hl
    cases A with
    | none => exact run_convert_bytes_nil w src e hs he _ _ dst hd
    | some a => exact run_convert_bytes_back w src dst e a cap [] hs he hd (fun j hj => by simp at hj)
  · obtain ⟨rfl, rest, hb⟩ := ho.blk h0
    refine run_convert_bytes_back w src dst e _ cap l hs he hd (fun j hj => ?_)
    rw [Go.WideShapes.add_plain, Nat.zero_add, hb.cell, List.getElem?_toArray, List.getElem?_append_left (by rw [bV_len]; exact hj), bV, List.getElem?_map, List.getElem?_eq_getElem hj]
    rfl
theorem put_step {l : List UInt8} {m : Nat} {n : Int} (h : l ++ putU m = putL n) (hm : 128 ≤ m) : (l ++ [UInt8.ofNat (m % 128 + 128)]) ++ putU (m / 128) = putL n := by
  rw [← h, putU_big hm, List.append_assoc]; rfl
theorem put_end {l : List UInt8} {m : Nat} {n : Int} (h : l ++ putU m = putL n) (hm : m < 128) : l ++ [UInt8.ofNat m] = putL n := by
  rw [← h, putU_small hm]
theorem bV_snoc (l : List UInt8) (m : Nat) (h : m < 256) : bV (l ++ [UInt8.ofNat m]) = bV l ++ [.int .u8 (m : Int)] := by
  rw [bV_app]
  congr 1
  simp only [bV, List.map_cons, List.map_nil]
  rw [UInt8.toNat_ofNat', Nat.mod_eq_of_lt h]
theorem zig_neg {n : Int} (h : n < 0) : ((zig n : Nat) : Int) = -2 * n - 1 := by rw [zig, if_pos h]; omega
theorem zig_pos {n : Int} (h : ¬ n < 0) : ((zig n : Nat) : Int) = 2 * n := by rw [zig, if_neg h]; omega
theorem take_snoc (s : ByteArray) (k : Nat) (h : k < s.size) : s.data.toList.take (k + 1) = s.data.toList.take k ++ [s[k]] := by
  rw [List.take_succ_eq_append_getElem (by simpa using h)]; rfl
end Go.Proofs.YtbepfonpfnllkaaDoor
/- The decimal form of a number by the library: the shelf at this seat (written by the kit tool lay-plain). -/
namespace Go.Proofs.YtbepfonpfnllkaaDoor
set_option linter.unusedSimpArgs false
set_option linter.unusedVariables false
open Go.Shelf
def Tryd.lays173_ren : Go.Shelf.Ren := ⟨fun | 173 => 39 | 246 => 44 | 283 => 48 | 284 => 49 | 285 => 50 | 286 => 51 | 129 => 56 | 317 => 55 | 318 => 57 | 319 => 58 | 320 => 59 | 337 => 62 | 338 => 63 | n => n, fun | 2 => 2 | 3 => 3 | 9 => 9 | 4 => 4 | 171 => 66 | 0 => 0 | 53 => 57 | 37 => 22 | 5 => 5 | 173 => 69 | 212 => 76 | 51 => 77 | 20 => 20 | 213 => 78 | 46 => 63 | 232 => 84 | 233 => 85 | n => n, fun | 17 => 0 | 18 => 1 | 19 => 2 | n => n⟩
theorem Tryd.lays173 : Go.Proofs.LaysM.n173 Tryd.prog Tryd.lays173_ren := {
  mixed := by kernel_rfl
  f129 := Tryd.func56.trans (congrArg some (by kernel_rfl))
  f173 := Tryd.func39.trans (congrArg some (by kernel_rfl))
  f246 := Tryd.func44.trans (congrArg some (by kernel_rfl))
  f283 := Tryd.func48.trans (congrArg some (by kernel_rfl))
  f284 := Tryd.func49.trans (congrArg some (by kernel_rfl))
  f285 := Tryd.func50.trans (congrArg some (by kernel_rfl))
  f286 := Tryd.func51.trans (congrArg some (by kernel_rfl))
  f317 := Tryd.func55.trans (congrArg some (by kernel_rfl))
  f318 := Tryd.func57.trans (congrArg some (by kernel_rfl))
  f319 := Tryd.func58.trans (congrArg some (by kernel_rfl))
  f320 := Tryd.func59.trans (congrArg some (by kernel_rfl))
  f337 := Tryd.func62.trans (congrArg some (by kernel_rfl))
  f338 := Tryd.func63.trans (congrArg some (by kernel_rfl))
  t0 := Tryd.underlying0
  a0 := Tryd.isAgg0
  z0 := Tryd.sizeOf0
  v0 := Tryd.zeroValue0
  t2 := Tryd.underlying2
  a2 := Tryd.isAgg2
  z2 := Tryd.sizeOf2
  v2 := Tryd.zeroValue2
  t3 := Tryd.underlying3
  a3 := Tryd.isAgg3
  z3 := Tryd.sizeOf3
  v3 := Tryd.zeroValue3
  t4 := Tryd.underlying4
  a4 := Tryd.isAgg4
  z4 := Tryd.sizeOf4
  v4 := Tryd.zeroValue4
  t5 := Tryd.underlying5
  a5 := Tryd.isAgg5
  z5 := Tryd.sizeOf5
  v5 := Tryd.zeroValue5
  t9 := Tryd.underlying9
  a9 := Tryd.isAgg9
  z9 := Tryd.sizeOf9
  v9 := Tryd.zeroValue9
  t20 := Tryd.underlying20
  a20 := Tryd.isAgg20
  z20 := Tryd.sizeOf20
  v20 := Tryd.zeroValue20
  t37 := Tryd.underlying22
  a37 := Tryd.isAgg22
  z37 := Tryd.sizeOf22
  v37 := Tryd.zeroValue22
  t46 := Tryd.underlying63
  a46 := Tryd.isAgg63
  z46 := Tryd.sizeOf63
  v46 := Tryd.zeroValue63
  t51 := Tryd.underlying77
  a51 := Tryd.isAgg77
  z51 := Tryd.sizeOf77
  v51 := Tryd.zeroValue77
  t53 := Tryd.underlying57
  a53 := Tryd.isAgg57
  z53 := Tryd.sizeOf57
  v53 := Tryd.zeroValue57
  t171 := Tryd.underlying66
  a171 := Tryd.isAgg66
  z171 := Tryd.sizeOf66
  v171 := Tryd.zeroValue66
  t173 := Tryd.underlying69
  a173 := Tryd.isAgg69
  z173 := Tryd.sizeOf69
  v173 := Tryd.zeroValue69
  t212 := Tryd.underlying76
  a212 := Tryd.isAgg76
  z212 := Tryd.sizeOf76
  v212 := Tryd.zeroValue76
  t213 := Tryd.underlying78
  a213 := Tryd.isAgg78
  z213 := Tryd.sizeOf78
  t232 := Tryd.underlying84
  a232 := Tryd.isAgg84
  z232 := Tryd.sizeOf84
  v232 := Tryd.zeroValue84
  t233 := Tryd.underlying85
  a233 := Tryd.isAgg85
  z233 := Tryd.sizeOf85
  v233 := Tryd.zeroValue85
  g17 := by kernel_rfl
  g18 := by kernel_rfl
  g19 := by kernel_rfl
  i0 := by kernel_rfl
  i2 := by kernel_rfl
  i3 := by kernel_rfl
  i4 := by kernel_rfl
  i5 := by kernel_rfl
  i9 := by kernel_rfl
  i20 := by kernel_rfl
  i37 := by kernel_rfl
  i46 := by kernel_rfl
  i51 := by kernel_rfl
  i53 := by kernel_rfl
  i171 := by kernel_rfl
  i173 := by kernel_rfl
  i212 := by kernel_rfl
  i232 := by kernel_rfl
  i233 := by kernel_rfl
  m17 := by kernel_rfl
  m18 := by kernel_rfl
  m19 := by kernel_rfl }
end Go.Proofs.YtbepfonpfnllkaaDoor
/- Decimal forms of numbers, by both functions. Conditions: an int64; the library's table of powers as it is laid. -/
namespace Go.Proofs.YtbepfonpfnllkaaDoor
set_option linter.unusedSimpArgs false
set_option linter.unusedVariables false
open Go.RowKit Go.WideShapes

/-- The digits of a number that is not 0. -/
def digs (u : Nat) : List UInt8 := if h : u = 0 then [] else digs (u / 10) ++ [UInt8.ofNat (48 + u % 10)]
termination_by u
decreasing_by omega
theorem digs_zero : digs 0 = [] := by rw [digs, dif_pos rfl]
theorem digs_step {u : Nat} (h : u ≠ 0) : digs u = digs (u / 10) ++ [UInt8.ofNat (48 + u % 10)] := by rw [digs, dif_neg h]
theorem digs_dec (u : Nat) (h : 0 < u) : digs u = Lib.decDigits u := by
  induction u using Nat.strongRecOn with
  | _ u ih =>
    rw [digs_step (by omega), Lib.decDigits]
    by_cases h1 : u < 10
    · rw [dif_pos h1, show u / 10 = 0 by omega, digs_zero, List.nil_append, Nat.mod_eq_of_lt h1]
    · rw [dif_neg h1, ih (u / 10) (by omega) (by omega)]
theorem digs_len (k u : Nat) (h : u < 10 ^ k) : (digs u).length ≤ k := by
  induction k generalizing u with
  | zero =>
    have : u = 0 := by simpa using h
    subst this
    rw [digs_zero]; exact Nat.le_refl _
  | succ k ih =>
    by_cases h0 : u = 0
    · subst h0; rw [digs_zero]; exact Nat.zero_le _
    · rw [digs_step h0, List.length_append]
      have := ih (u / 10) (by rw [Nat.pow_succ] at h; omega)
      simpa using this
theorem digs_len20 {u : Nat} (h : u ≤ 9223372036854775808) : (digs u).length ≤ 20 := digs_len 20 u (by omega)
theorem digs_nil {u : Nat} (h : digs u = []) : u = 0 := by
  by_cases h0 : u = 0
  · exact h0
  · rw [digs_step h0] at h; simp at h
theorem digit_nat (u : Nat) : ((UInt8.ofNat (48 + u % 10)).toNat : Int) = 48 + ((u % 10 : Nat) : Int) := by
  rw [UInt8.toNat_ofNat', Nat.mod_eq_of_lt (by omega)]; omega
theorem bV_cons (c : UInt8) (l : List UInt8) : bV (c :: l) = .int .u8 (c.toNat : Int) :: bV l := rfl
def decS (n : Int) : ByteArray := ⟨(Lib.itoa n).toArray⟩
theorem decS_zero : decS 0 = ⟨#[48]⟩ := by rw [decS, Lib.itoa, if_neg (by omega), show (0 : Int).toNat = 0 from rfl, Lib.decDigits, dif_pos (by omega)]; rfl
theorem decS_pos {n : Int} (h : 0 < n) : decS n = ⟨(digs n.natAbs).toArray⟩ := by
  rw [decS, Lib.itoa, if_neg (by omega), digs_dec _ (by omega), show n.toNat = n.natAbs by omega]
theorem decS_neg {n : Int} (h : n < 0) : decS n = ⟨(45 :: digs n.natAbs).toArray⟩ := by
  rw [decS, Lib.itoa, if_pos h, digs_dec _ (by omega)]
theorem tm_neg {z : Int} (h : z < 0) : z.tmod 10 = -((z.natAbs % 10 : Nat) : Int) ∧ z.tdiv 10 = -((z.natAbs / 10 : Nat) : Int) := by
  obtain ⟨u, rfl⟩ : ∃ u : Nat, z = -(u : Int) := ⟨z.natAbs, by omega⟩
  rw [Int.neg_tmod, Int.neg_tdiv, Int.tmod_eq_emod_of_nonneg (by omega), Int.tdiv_eq_ediv_of_nonneg (by omega)]
  rw [show (-(u : Int)).natAbs = u by omega]
  exact ⟨rfl, rfl⟩
theorem row_made1 {base : Nat} (w : World) (u : Value) (e : TypeId) (hb : base ≤ w.heap.size) : (w.alloc (.cells #[u] e)).ownsRow base e 1 (.slice (some ⟨w.heap.size, 0, none⟩) 1 1) 1 [u] :=
  ⟨by simp, .inr ⟨w.heap.size, 1, #[u], rfl, hb, heap_alloc_new w _, Nat.le_refl _, by unfold maxLen; omega, rfl, by simp⟩⟩
theorem add_bytes (a b : List UInt8) : (⟨a.toArray⟩ : ByteArray) ++ ⟨b.toArray⟩ = ⟨(a ++ b).toArray⟩ := by
  apply ByteArray.ext
  simp
set_option maxHeartbeats 2000000 in
theorem l01Dec_any (n : Int) (h0 : -9223372036854775808 ≤ n) (h1 : n ≤ 9223372036854775807) (w : World) :
    Calls Tryd.prog 40 #[.int .i64 n] w fun e w' => e = .returned (.string (decS n)) ∧ Below w.heap.size w w' := by
  obtain ⟨i0, ti, tz0, tz1, tz2⟩ := info_parts info_u8
  go_enter Tryd.func40, Tryd.ntmps40
  go_wp2_with fail
  go_loopw [3, 4] (fun v k wr => ∃ (z : Int) (ds : List UInt8), k = .int .i64 z ∧ wr.ownsRow w.heap.size 5 1 v ds.length (bV ds) ∧ Hid (digs z.natAbs ++ ds = digs n.natAbs) ∧ Hid ((n < 0 → z ≤ 0) ∧ (0 ≤ n → 0 ≤ z)) ∧ -9223372036854775808 ≤ z ∧ z ≤ 9223372036854775807 ∧ Below w.heap.size w wr) (fun _ k _ => (intOf k).natAbs)
  case atStart => exact ⟨n, [], rfl, World.ownsRow_made _ _ 0 (Nat.le_refl _) (Nat.zero_le _) rfl, by unfold Hid; simp, ⟨by omega, by omega⟩, h0, h1, by (repeat' (first | (with_reducible exact Below.refl _ _) | (with_reducible assumption) | (with_reducible refine Below.alloc ?_ ?_ _) | (with_reducible refine Below.drew ?_) | (with_reducible refine belowDrewN ?_ _) | (with_reducible refine Below.setCell ?_ ?_ _) | (with_reducible refine Below.via (by with_reducible assumption) ?_ ?_) | (with_reducible refine Below.viaD (by with_reducible assumption) ?_ ?_) | (with_reducible exact Below.size (by with_reducible assumption)) | go_size | (with_reducible refine Nat.le_trans ?_ (Below.size (by with_reducible assumption))) | (with_reducible refine Nat.le_trans ?_ (sizeAlloc _ _)) | (with_reducible refine Nat.le_trans ?_ (sizeSet _ _ _)) | (with_reducible refine Nat.le_trans ?_ (sizeDrew _))))⟩
  case round =>
    obtain ⟨z, ds, rfl, hown, hd, hsg, hz0, hz1, hbl⟩ := hrel
    have hbs := hbl.size
    have HBL := Lib.hid hbl
    have hlen : ds.length ≤ 20 := by
      have h2 := digs_len20 (u := n.natAbs) (by omega)
      rw [← hd.out, List.length_append] at h2
      omega
    by_cases hz : z = 0
    · subst hz
      have hd2 : Hid (ds = digs n.natAbs) := by unfold Hid; rw [← hd.out, show (0 : Int).natAbs = 0 from rfl, digs_zero, List.nil_append]
      have hcv := row_string hown 22 5 9 Tryd.underlying22 Tryd.underlying5 Tryd.underlying9
      obtain ⟨A', g, cap, rfl, hg, hnc, hcm, ho⟩ := own_of_row hown
      clear hown ho
      by_cases hl : ds.length = 0
      · have hn0 : n = 0 := by
          have h2 := hd2.out
          rw [List.eq_nil_of_length_eq_zero hl] at h2
          have := digs_nil h2.symm
          omega
        subst hn0
        rw [hl] at hcv ⊢
        clear hl hbl
        go_wp2_with fail
        go_ret
        exact ⟨by rw [decS_zero]; rfl, HBL.out⟩
      · have hn0 : n ≠ 0 := by
          rintro rfl
          have h2 := hd2.out
          rw [show (0 : Int).natAbs = 0 from rfl, digs_zero] at h2
          rw [h2] at hl
          exact hl rfl
        have hl1 : 0 < ds.length := by omega
        have hlc : (((ds.length : Nat) : Int) == 0) = false := by rw [beq_eq_false_iff_ne]; omega
        clear hbl h0 h1 hz0 hz1 hl hbs
        by_cases hn1 : n < 0
        · have hadd : (Op.stringOp .add ⟨#[45]⟩ ⟨ds.toArray⟩).run Tryd.prog wr = .ok (.string (decS n)) wr := by
            rw [run_string_add_sum wr _ _ (by show (#[45] : Array UInt8).size + ds.toArray.size ≤ _; simp; omega), decS_neg hn1, ← hd2.out]
            rfl
          clear hlen
          go_wp2_with fail
          go_ret
          exact ⟨rfl, HBL.out⟩
        · clear hlen
          go_wp2_with fail
          go_ret
          rw [decS_pos (by omega), ← hd2.out]
          exact ⟨rfl, HBL.out⟩
    · have hst := digs_step (u := z.natAbs) (by omega)
      have hdn : Hid (digs (z.natAbs / 10) ++ (UInt8.ofNat (48 + z.natAbs % 10) :: ds) = digs n.natAbs) := by
        unfold Hid; rw [← hd.out, hst, List.append_assoc]; rfl
      have hdg := digit_nat z.natAbs
      obtain ⟨A', g, cap, rfl, hg, hnc, hcm, ho⟩ := own_of_row hown
      have HO := Lib.hid ho
      clear hown ho hst hd hbl
      obtain ⟨c, hc⟩ : ∃ c, UInt8.ofNat (48 + z.natAbs % 10) = c := ⟨_, rfl⟩
      rw [hc] at hdn hdg
      have hd9 : z.natAbs % 10 ≤ 9 := by omega
      clear hc
      obtain ⟨d, hdd⟩ : ∃ d : Int, ((z.natAbs % 10 : Nat) : Int) = d := ⟨_, rfl⟩
      rw [hdd] at hdg
      have hd1 : 0 ≤ d := by omega
      have hd2 : d ≤ 9 := by omega
      have HC : Hid (Value.int .u8 (48 + d) = .int .u8 (c.toNat : Int)) := by unfold Hid; rw [hdg]
      clear hd9
      rcases Int.lt_or_gt_of_ne hz with hneg | hpos
      · obtain ⟨e1, e2⟩ := tm_neg hneg
        rw [hdd] at e1
        obtain ⟨q, hq⟩ : ∃ q : Int, -((z.natAbs / 10 : Nat) : Int) = q := ⟨_, rfl⟩
        rw [hq] at e2
        have hqa : q.natAbs = z.natAbs / 10 := by omega
        have HQA := Lib.hid hqa
        have hq0 : -922337203685477581 ≤ q := by omega
        have hq1 : q ≤ 0 := by omega
        have hqm : Hid (q.natAbs < z.natAbs) := by unfold Hid; omega
        have hnn : n < 0 := by rcases Int.lt_or_le n 0 with h | h; exact h; have := hsg.out.2 h; omega
        clear hdg hdd hq hqa hsg h0 h1 hz0 hz1
        have hzb : (z != 0) = true := by rw [bne_iff_ne]; exact hz
        clear hz
        by_cases hdz : d = 0
        · subst hdz
          go_wp2_with (at_builtin; refine wpList_append_sl _ rfl _ _ 22 rfl w.heap.size 5 i0 _ 1 1 Tryd.underlying22 ti tz0 tz1 tz2 rfl (by decide) _ 1 [.int .u8 48] rfl (row_made1 _ _ _ hbs) _ A' ds.length cap (bV ds) rfl (HO.out.later (Below.alloc (Below.refl _ _) (Nat.le_refl _) _)).sl ?c1 ?c2 ?c3 ?c4 ?_)
          case c1 => exact bV_one _
          case c2 => unfold maxLen; omega
          case c3 => omega
          case c4 => simp; omega
          intro v' w3 hown3 hg3 _
          have hbn : Below w.heap.size w w3 := below_app (by have := HBL.out; (repeat' (first | (with_reducible exact Below.refl _ _) | (with_reducible assumption) | (with_reducible refine Below.alloc ?_ ?_ _) | (with_reducible refine Below.drew ?_) | (with_reducible refine belowDrewN ?_ _) | (with_reducible refine Below.setCell ?_ ?_ _) | (with_reducible refine Below.via (by with_reducible assumption) ?_ ?_) | (with_reducible refine Below.viaD (by with_reducible assumption) ?_ ?_) | (with_reducible exact Below.size (by with_reducible assumption)) | go_size | (with_reducible refine Nat.le_trans ?_ (Below.size (by with_reducible assumption))) | (with_reducible refine Nat.le_trans ?_ (sizeAlloc _ _)) | (with_reducible refine Nat.le_trans ?_ (sizeSet _ _ _)) | (with_reducible refine Nat.le_trans ?_ (sizeDrew _))))) (row_made1 _ _ _ hbs) hg3 (Nat.le_refl _) (by simp; omega)
          have HO3 := Lib.hid hown3
          clear hown3 hg3
          go_wp2_with fail
          go_roundw
          case rel => exact ⟨q, c :: ds, by rfl, by rw [bV_cons, ← HC.out, List.length_cons, Nat.add_comm]; exact HO3.out, by unfold Hid; rw [HQA.out]; exact hdn.out, ⟨fun _ => hq1, by omega⟩, by omega, by omega, hbn⟩
          case measure => have hqm := hqm.out; simpa [intOf] using hqm
        · have hdp : 0 < d := by omega
          go_wp2_with (at_builtin; refine wpList_append_sl _ rfl _ _ 22 rfl w.heap.size 5 i0 _ 1 1 Tryd.underlying22 ti tz0 tz1 tz2 rfl (by decide) _ 1 [.int .u8 (48 + d)] rfl (row_made1 _ _ _ hbs) _ A' ds.length cap (bV ds) rfl (HO.out.later (Below.alloc (Below.refl _ _) (Nat.le_refl _) _)).sl ?c1 ?c2 ?c3 ?c4 ?_)
          case c1 => exact bV_one _
          case c2 => unfold maxLen; omega
          case c3 => omega
          case c4 => simp; omega
          intro v' w3 hown3 hg3 _
          have hbn : Below w.heap.size w w3 := below_app (by have := HBL.out; (repeat' (first | (with_reducible exact Below.refl _ _) | (with_reducible assumption) | (with_reducible refine Below.alloc ?_ ?_ _) | (with_reducible refine Below.drew ?_) | (with_reducible refine belowDrewN ?_ _) | (with_reducible refine Below.setCell ?_ ?_ _) | (with_reducible refine Below.via (by with_reducible assumption) ?_ ?_) | (with_reducible refine Below.viaD (by with_reducible assumption) ?_ ?_) | (with_reducible exact Below.size (by with_reducible assumption)) | go_size | (with_reducible refine Nat.le_trans ?_ (Below.size (by with_reducible assumption))) | (with_reducible refine Nat.le_trans ?_ (sizeAlloc _ _)) | (with_reducible refine Nat.le_trans ?_ (sizeSet _ _ _)) | (with_reducible refine Nat.le_trans ?_ (sizeDrew _))))) (row_made1 _ _ _ hbs) hg3 (Nat.le_refl _) (by simp; omega)
          have HO3 := Lib.hid hown3
          clear hown3 hg3
          go_wp2_with fail
          go_roundw
          case rel => exact ⟨q, c :: ds, by rfl, by rw [bV_cons, ← HC.out, List.length_cons, Nat.add_comm]; exact HO3.out, by unfold Hid; rw [HQA.out]; exact hdn.out, ⟨fun _ => hq1, by omega⟩, by omega, by omega, hbn⟩
          case measure => have hqm := hqm.out; simpa [intOf] using hqm
      · obtain ⟨q, hq⟩ : ∃ q : Int, z / 10 = q := ⟨_, rfl⟩
        have e1 : z.tmod 10 = d := by rw [Int.tmod_eq_emod_of_nonneg (by omega)]; omega
        have e2 : z.tdiv 10 = q := by rw [Int.tdiv_eq_ediv_of_nonneg (by omega)]; exact hq
        have e3 : z % 10 = d := by omega
        have hqa : q.natAbs = z.natAbs / 10 := by omega
        have HQA := Lib.hid hqa
        have hq0 : 0 ≤ q := by omega
        have hq1 : q ≤ 922337203685477581 := by omega
        have hqm : Hid (q.natAbs < z.natAbs) := by unfold Hid; omega
        have hnn : Hid (0 < n ∨ n = 0) := by unfold Hid; rcases Int.lt_or_le n 0 with h | h; (have := hsg.out.1 h; omega); omega
        clear hdg hdd hqa hsg h0 h1 hz0 hz1
        have hzb : (z != 0) = true := by rw [bne_iff_ne]; exact hz
        clear hz
        have hdl : decide (d < 0) = false := by simp; omega
        clear hq e3
        go_wp2_with (at_builtin; refine wpList_append_sl _ rfl _ _ 22 rfl w.heap.size 5 i0 _ 1 1 Tryd.underlying22 ti tz0 tz1 tz2 rfl (by decide) _ 1 [.int .u8 (48 + d)] rfl (row_made1 _ _ _ hbs) _ A' ds.length cap (bV ds) rfl (HO.out.later (Below.alloc (Below.refl _ _) (Nat.le_refl _) _)).sl ?c1 ?c2 ?c3 ?c4 ?_)
        case c1 => exact bV_one _
        case c2 => unfold maxLen; omega
        case c3 => omega
        case c4 => simp; omega
        intro v' w3 hown3 hg3 _
        have hbn : Below w.heap.size w w3 := below_app (by have := HBL.out; (repeat' (first | (with_reducible exact Below.refl _ _) | (with_reducible assumption) | (with_reducible refine Below.alloc ?_ ?_ _) | (with_reducible refine Below.drew ?_) | (with_reducible refine belowDrewN ?_ _) | (with_reducible refine Below.setCell ?_ ?_ _) | (with_reducible refine Below.via (by with_reducible assumption) ?_ ?_) | (with_reducible refine Below.viaD (by with_reducible assumption) ?_ ?_) | (with_reducible exact Below.size (by with_reducible assumption)) | go_size | (with_reducible refine Nat.le_trans ?_ (Below.size (by with_reducible assumption))) | (with_reducible refine Nat.le_trans ?_ (sizeAlloc _ _)) | (with_reducible refine Nat.le_trans ?_ (sizeSet _ _ _)) | (with_reducible refine Nat.le_trans ?_ (sizeDrew _))))) (row_made1 _ _ _ hbs) hg3 (Nat.le_refl _) (by simp; omega)
        have HO3 := Lib.hid hown3
        clear hown3 hg3
        go_wp2_with fail
        go_roundw
        case rel => exact ⟨q, c :: ds, by rfl, by rw [bV_cons, ← HC.out, List.length_cons, Nat.add_comm]; exact HO3.out, by unfold Hid; rw [HQA.out]; exact hdn.out, ⟨by have := hnn.out; omega, fun _ => hq0⟩, by omega, by omega, hbn⟩
        case measure => have hqm := hqm.out; simpa [intOf] using hqm
def powName : String := (Rows.fnTimesRow.laid.map (·.1)).getD 2 ""
/-- The table of powers stands as it was laid. -/
def TabW (w : World) : Prop := Lib.TabBelow Tryd.prog w.heap.size w powName .u64 Lib.pow10Tab
theorem TabW.later {w w' : World} (h : TabW w) (hb : Below w.heap.size w w') : TabW w' := fun w2 h2 => h w2 (Below.via h2 hb hb.size)
theorem TabW.drewN {w : World} (h : TabW w) (k : Nat) : TabW (w.drewN k) := h.later (belowDrewN (Below.refl _ _) k)
theorem Decimal_any (n : Int) (h0 : -9223372036854775808 ≤ n) (h1 : n ≤ 9223372036854775807) (w : World) (ht : TabW w) :
    Calls Tryd.prog 23 #[.int .i64 n] w fun e w' => e = .returned (.string (decS n)) ∧ Below w.heap.size w w' := by
  have HT := Lib.hid ht.here
  go_enter Tryd.func23, Tryd.ntmps23
  go_wp2_with (go_at_call 39; refine (Any.strconv_FormatInt_10 Tryd.lays173 n h0 h1 _ HT.out).mono ?_; rintro e w1 ⟨rfl, k, os, rfl⟩)
  go_ret
  exact ⟨rfl, Lib.below_grow _ w (Nat.le_refl _) k os⟩
end Go.Proofs.YtbepfonpfnllkaaDoor
/- FlawName: both functions, and the law. No conditions. -/
namespace Go.Proofs.YtbepfonpfnllkaaDoor
set_option linter.unusedSimpArgs false
set_option linter.unusedVariables false
open Go.RowKit

/-- The name of a kind of flaws. -/
def flawS (k : Int) : ByteArray :=
  if k = 0 then ⟨#[110, 111, 110, 101]⟩ else if k = 1 then ⟨#[101, 110, 100]⟩ else if k = 2 then ⟨#[98, 101, 116, 116, 101, 114]⟩ else if k = 3 then ⟨#[119, 111, 114, 115, 101]⟩ else if k = 4 then ⟨#[114, 97, 110, 107]⟩ else ⟨#[]⟩
theorem flaw_out {k : Int} (h : ¬ (0 ≤ k ∧ k ≤ 4)) : flawS k = ⟨#[]⟩ := by
  unfold flawS
  rw [if_neg (by omega), if_neg (by omega), if_neg (by omega), if_neg (by omega), if_neg (by omega)]
theorem in_of {k : Int} (h : inB k 0 4 = true) : k = 0 ∨ k = 1 ∨ k = 2 ∨ k = 3 ∨ k = 4 := by have := inB_of h; omega
theorem out_of {k : Int} (h : inB k 0 4 = false) : ¬ (0 ≤ k ∧ k ≤ 4) := by simpa [inB] using h
theorem ret_string {a b : ByteArray} (h : a = b) : Ending.returned (.string a) = .returned (.string b) := by rw [h]
end Go.Proofs.YtbepfonpfnllkaaDoor
