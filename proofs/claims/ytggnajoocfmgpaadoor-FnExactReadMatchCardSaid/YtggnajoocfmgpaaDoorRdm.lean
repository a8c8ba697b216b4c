/- ReadMatch: both functions, and the law. Conditions: the table of powers as it is laid. -/
import Derived.Test.YtggnajoocfmgpaaDoorRdr
import Derived.Test.YtggnajoocfmgpaaDoorTxt2
namespace Go.Proofs.YtggnajoocfmgpaaDoor
set_option linter.unusedSimpArgs false
set_option linter.unusedVariables false
open Go.RowKit Go.WideShapes Go.ChangeShapes

def sLen : Value → Nat | .string b => b.size | _ => 0
set_option maxHeartbeats 2000000 in
theorem parts_any (s : ByteArray) (hs : s.size ≤ 1048576) (w : World) :
    Calls Tryd.prog 59 #[.string s] w (SpP (splitL 32 s.data.toList) w) := by
  obtain ⟨i0, ti, tz0, tz1, tz2⟩ := info_parts info_str
  go_enter Tryd.func59, Tryd.ntmps59
  go_wp2_with fail
  go_loopw [0, 3] (fun sv v wr => ∃ (t : ByteArray) (ps : List (List UInt8)), sv = .string t ∧ wr.ownsRow w.heap.size 9 1 v ps.length (ps.map strV) ∧ ps.length + t.size ≤ 1048576 ∧ Hid (splitL 32 s.data.toList = ps ++ splitL 32 t.data.toList) ∧ Below w.heap.size w wr) (fun sv _ _ => sLen sv)
  case atStart => exact ⟨s, [], rfl, World.ownsRow_made _ _ 0 (Nat.le_refl _) (Nat.zero_le _) rfl, by simpa using hs, by unfold Hid; rfl, by (repeat' (first | (with_reducible exact Below.refl _ _) | (with_reducible assumption) | (with_reducible refine Below.alloc ?_ ?_ _) | (with_reducible refine Below.drew ?_) | (with_reducible refine belowDrewN ?_ _) | (with_reducible refine Below.setCell ?_ ?_ _) | (with_reducible refine Below.via (by with_reducible assumption) ?_ ?_) | (with_reducible refine Below.viaD (by with_reducible assumption) ?_ ?_) | (with_reducible exact Below.size (by with_reducible assumption)) | go_size | (with_reducible refine Nat.le_trans ?_ (Below.size (by with_reducible assumption))) | (with_reducible refine Nat.le_trans ?_ (sizeAlloc _ _)) | (with_reducible refine Nat.le_trans ?_ (sizeSet _ _ _)) | (with_reducible refine Nat.le_trans ?_ (sizeDrew _))))⟩
  case round =>
    obtain ⟨t, ps, rfl, hown, hpl, hsp, hbl⟩ := hrel
    have HB := Lib.hid hbl
    have hbs := hbl.size
    have HO := Lib.hid hown
    clear hbl hown
    have htl := ba_len t
    rcases cut_cases 32 t.data.toList with ⟨a, r, e, ha, h1, h2⟩ | ⟨ha, h1, h2⟩
    · have HC : Hid (cutB 32 t = (⟨a.toArray⟩, ⟨r.toArray⟩, true)) := by unfold Hid; rw [cutB, h1]
      have hlen : a.length + r.length + 1 = t.size := by rw [← htl, e, List.length_append, List.length_cons]; omega
      have HN : Hid (splitL 32 s.data.toList = (ps ++ [a]) ++ splitL 32 (⟨r.toArray⟩ : ByteArray).data.toList) := by
        unfold Hid
        rw [hsp.out, h2, List.append_assoc]
        simp
      obtain ⟨F, hF⟩ : ∃ F : ByteArray, ⟨a.toArray⟩ = F := ⟨_, rfl⟩
      obtain ⟨R, hR⟩ : ∃ F : ByteArray, ⟨r.toArray⟩ = F := ⟨_, rfl⟩
      have hRs : R.size = r.length := by rw [← hR]; show r.toArray.size = _; simp
      have HV : Hid (Value.string F = strV a) := by unfold Hid strV; rw [hF]
      rw [hF, hR] at HC
      rw [hR] at HN
      clear h1 h2 e ha hF hR htl hsp
      go_wp2_with fail
      refine (cut_any 32 t _ F R true rfl HC.out (by omega) _).mono ?_
      rintro e w1 ⟨rfl, hb1⟩
      have B1 := Lib.hid (Below.via hb1 HB.out hbs)
      have hbs1 := B1.out.size
      have HO1 := Lib.hid (row_below HO.out hb1)
      clear hb1
      go_wp2_with (at_builtin; refine wpList_append_sl _ rfl _ _ 73 rfl w.heap.size 9 i0 _ 1 16 Tryd.underlying73 ti tz0 tz1 tz2 rfl (by decide) _ ps.length (ps.map strV) rfl (HO1.out.alloc _) (w1.heap.size + 1) _ 1 1 [.string F] rfl (Sl.built (by simp) (by simp) rfl) ?c1 ?c2 ?c3 ?c4 ?_)
      case c1 => intro u hu; simp at hu; subst hu; rfl
      case c2 => unfold maxLen; omega
      case c3 => omega
      case c4 => simp; omega
      intro v' w3 hown3 hg3 _
      have hbn : Below w.heap.size w w3 := below_app (by have := B1.out; (repeat' (first | (with_reducible exact Below.refl _ _) | (with_reducible assumption) | (with_reducible refine Below.alloc ?_ ?_ _) | (with_reducible refine Below.drew ?_) | (with_reducible refine belowDrewN ?_ _) | (with_reducible refine Below.setCell ?_ ?_ _) | (with_reducible refine Below.via (by with_reducible assumption) ?_ ?_) | (with_reducible refine Below.viaD (by with_reducible assumption) ?_ ?_) | (with_reducible exact Below.size (by with_reducible assumption)) | go_size | (with_reducible refine Nat.le_trans ?_ (Below.size (by with_reducible assumption))) | (with_reducible refine Nat.le_trans ?_ (sizeAlloc _ _)) | (with_reducible refine Nat.le_trans ?_ (sizeSet _ _ _)) | (with_reducible refine Nat.le_trans ?_ (sizeDrew _))))) (HO1.out.alloc _) hg3 (Nat.le_refl _) (by simp; omega)
      have HO3 := Lib.hid hown3
      clear hown3 hg3
      go_wp2_with fail
      go_roundw
      case rel => exact ⟨R, ps ++ [a], rfl, by rw [List.map_append, List.length_append]; have h := HO3.out; rw [HV.out] at h; exact h, by rw [List.length_append]; simp; omega, HN.out, hbn⟩
      case measure => show R.size < t.size; omega
    · have HC : Hid (cutB 32 t = (t, ⟨#[]⟩, false)) := by unfold Hid; rw [cutB, h1, ← ba_self]
      have HN : Hid (splitL 32 s.data.toList = ps ++ [t.data.toList]) := by unfold Hid; rw [hsp.out, h2]
      have HV : Hid (Value.string t = strV t.data.toList) := by unfold Hid strV; rw [← ba_self]
      clear h1 h2 ha htl hsp
      go_wp2_with fail
      refine (cut_any 32 t _ t ⟨#[]⟩ false rfl HC.out (by omega) _).mono ?_
      rintro e w1 ⟨rfl, hb1⟩
      have B1 := Lib.hid (Below.via hb1 HB.out hbs)
      have hbs1 := B1.out.size
      have HO1 := Lib.hid (row_below HO.out hb1)
      clear hb1
      go_wp2_with (at_builtin; refine wpList_append_sl _ rfl _ _ 73 rfl w.heap.size 9 i0 _ 1 16 Tryd.underlying73 ti tz0 tz1 tz2 rfl (by decide) _ ps.length (ps.map strV) rfl (HO1.out.alloc _) (w1.heap.size + 1) _ 1 1 [.string t] rfl (Sl.built (by simp) (by simp) rfl) ?c1 ?c2 ?c3 ?c4 ?_)
      case c1 => intro u hu; simp at hu; subst hu; rfl
      case c2 => unfold maxLen; omega
      case c3 => omega
      case c4 => simp; omega
      intro v' w3 hown3 hg3 _
      have hbn : Below w.heap.size w w3 := below_app (by have := B1.out; (repeat' (first | (with_reducible exact Below.refl _ _) | (with_reducible assumption) | (with_reducible refine Below.alloc ?_ ?_ _) | (with_reducible refine Below.drew ?_) | (with_reducible refine belowDrewN ?_ _) | (with_reducible refine Below.setCell ?_ ?_ _) | (with_reducible refine Below.via (by with_reducible assumption) ?_ ?_) | (with_reducible refine Below.viaD (by with_reducible assumption) ?_ ?_) | (with_reducible exact Below.size (by with_reducible assumption)) | go_size | (with_reducible refine Nat.le_trans ?_ (Below.size (by with_reducible assumption))) | (with_reducible refine Nat.le_trans ?_ (sizeAlloc _ _)) | (with_reducible refine Nat.le_trans ?_ (sizeSet _ _ _)) | (with_reducible refine Nat.le_trans ?_ (sizeDrew _))))) (HO1.out.alloc _) hg3 (Nat.le_refl _) (by simp; omega)
      rw [HV.out] at hown3
      obtain ⟨A', g, cap, rfl, hg, hnc, hcm, ho⟩ := own_of_row hown3
      have HO3 := Lib.hid ho
      clear hown3 hg3 ho
      go_wp2_with fail
      go_ret
      refine ⟨A', g, cap, ?_, hg, ?_, hbn⟩
      · rw [HN.out, List.length_append]; rfl
      · rw [HN.out, List.length_append, List.map_append]; exact HO3.out
def rdM (l : List UInt8) : (Int × Int × Int × Bool) × Bool := match splitL 32 l with
  | [x, y, z] => if (numR ⟨x.toArray⟩).2 && (numR ⟨y.toArray⟩).2 && (numR ⟨z.toArray⟩).2 && mOk 11 (numR ⟨x.toArray⟩).1 (numR ⟨y.toArray⟩).1 (numR ⟨z.toArray⟩).1 then (((numR ⟨x.toArray⟩).1, (numR ⟨y.toArray⟩).1, (numR ⟨z.toArray⟩).1, false), true) else ((0, 0, 0, false), false)
  | [x, y, z, f] => if (numR ⟨x.toArray⟩).2 && (numR ⟨y.toArray⟩).2 && (numR ⟨z.toArray⟩).2 && mOk 11 (numR ⟨x.toArray⟩).1 (numR ⟨y.toArray⟩).1 (numR ⟨z.toArray⟩).1 && decide (f = [102]) then (((numR ⟨x.toArray⟩).1, (numR ⟨y.toArray⟩).1, (numR ⟨z.toArray⟩).1, true), true) else ((0, 0, 0, false), false)
  | _ => ((0, 0, 0, false), false)
theorem numR_dec {s : ByteArray} {n : Int} (h : numR s = (n, true)) : decS n = s := by
  rw [numR, numL] at h
  split at h
  · split at h
    · rename_i h2
      injection h with h3 _
      rw [← h3]; exact h2
    · injection h with _ h3; exact absurd h3 (by decide)
  · injection h with _ h3; exact absurd h3 (by decide)
theorem itoa_mem {n : Int} {c : UInt8} (h : c ∈ Lib.itoa n) : c = 45 ∨ dgt c = true := by
  have hd : ∀ (u : Nat) (c : UInt8), c ∈ Lib.decDigits u → dgt c = true := by
    intro u
    induction u using Nat.strongRecOn with
    | _ u ih =>
      intro c hc
      have hdg : ∀ k : Nat, k < 10 → dgt (UInt8.ofNat (48 + k)) = true := by
        intro k hk
        have : (UInt8.ofNat (48 + k)).toNat = 48 + k := by rw [UInt8.toNat_ofNat', Nat.mod_eq_of_lt (by omega)]
        rw [dgt, this, decide_eq_true_eq]; omega
      rw [Lib.decDigits] at hc
      split at hc
      · rename_i h1
        rw [List.mem_singleton.1 hc]; exact hdg u h1
      · rename_i h1
        rcases List.mem_append.1 hc with h2 | h2
        · exact ih (u / 10) (by omega) c h2
        · rw [List.mem_singleton.1 h2]; exact hdg (u % 10) (by omega)
  rw [Lib.itoa] at h
  split at h
  · rcases List.mem_cons.1 h with rfl | h
    · exact Or.inl rfl
    · exact Or.inr (hd _ _ h)
  · exact Or.inr (hd _ _ h)
theorem itoa_no {n : Int} {c : UInt8} (h1 : c ≠ 45) (h2 : dgt c = false) : ∀ x ∈ Lib.itoa n, x ≠ c := by
  intro x hx e
  subst e
  rcases itoa_mem hx with h | h
  · exact h1 h
  · rw [h2] at h; exact absurd h (by decide)
theorem matchT_list (a b c : Int) : (matchT a b c).data.toList = Lib.itoa a ++ 32 :: (Lib.itoa b ++ 32 :: Lib.itoa c) := by
  simp [matchT, decS, ByteArray.data_append, List.append_assoc]
theorem matchF_list (a b c : Int) : (matchF a b c true).data.toList = Lib.itoa a ++ 32 :: (Lib.itoa b ++ 32 :: (Lib.itoa c ++ 32 :: [102])) := by
  rw [matchF, if_pos rfl, ByteArray.data_append, Array.toList_append, matchT_list]
  simp [List.append_assoc]
theorem split3 (a b c : Int) : splitL 32 (matchT a b c).data.toList = [Lib.itoa a, Lib.itoa b, Lib.itoa c] := by
  rw [matchT_list, splitL_hit _ (itoa_no (by decide) (by decide)), splitL_hit _ (itoa_no (by decide) (by decide)), splitL_none (itoa_no (by decide) (by decide))]
theorem split4 (a b c : Int) : splitL 32 (matchF a b c true).data.toList = [Lib.itoa a, Lib.itoa b, Lib.itoa c, [102]] := by
  rw [matchF_list, splitL_hit _ (itoa_no (by decide) (by decide)), splitL_hit _ (itoa_no (by decide) (by decide)), splitL_hit _ (itoa_no (by decide) (by decide)), splitL_none (by intro x hx; rw [List.mem_singleton.1 hx]; decide)]
/-- A text is made up again of its parts. -/
def joinL (c : UInt8) : List (List UInt8) → List UInt8
  | [] => []
  | [x] => x
  | x :: y :: r => x ++ c :: joinL c (y :: r)
theorem split_ne (c : UInt8) (l : List UInt8) : splitL c l ≠ [] := by
  rcases cut_cases c l with ⟨_, _, _, _, _, h⟩ | ⟨_, _, h⟩ <;> rw [h] <;> simp
theorem join_split (c : UInt8) : ∀ (n : Nat) (l : List UInt8), l.length ≤ n → joinL c (splitL c l) = l := by
  intro n
  induction n with
  | zero =>
    intro l hl
    obtain rfl : l = [] := List.eq_nil_of_length_eq_zero (by omega)
    rfl
  | succ n ih =>
    intro l hl
    rcases cut_cases c l with ⟨a, r, e, _, _, h⟩ | ⟨_, _, h⟩
    · have h1 := ih r (by rw [e, List.length_append, List.length_cons] at hl; omega)
      rw [h]
      cases h2 : splitL c r with
      | nil => exact absurd h2 (split_ne c r)
      | cons y ys =>
        rw [joinL, ← h2, h1, e]
    · rw [h]; rfl
theorem decS_list (n : Int) : (decS n).data.toList = Lib.itoa n := by simp [decS]
theorem mk_of {x : List UInt8} {n : Int} (h : decS n = ⟨x.toArray⟩) : x = Lib.itoa n := by
  have := congrArg (fun b : ByteArray => b.data.toList) h
  simpa [decS_list] using this.symm
/-- What the program's test says. -/
theorem rdM_same {s : ByteArray} {P : List (List UInt8)} (hP : splitL 32 s.data.toList = P) {x y z : List UInt8} {a b c : Int} (h3 : 3 ≤ P.length) (hx : P.getD 0 [] = x) (hy : P.getD 1 [] = y) (hz : P.getD 2 [] = z)
    (ha : numR ⟨x.toArray⟩ = (a, true)) (hb : numR ⟨y.toArray⟩ = (b, true)) (hc : numR ⟨z.toArray⟩ = (c, true)) :
    rdM s.data.toList = if matchX a b c (decide (P.length = 4)) = s ∧ mOk 11 a b c = true then ((a, b, c, decide (P.length = 4)), true) else ((0, 0, 0, false), false) := by
  have ea := mk_of (numR_dec ha)
  have eb := mk_of (numR_dec hb)
  have ec := mk_of (numR_dec hc)
  have hj := join_split 32 _ s.data.toList (Nat.le_refl _)
  rw [hP] at hj
  match P, h3, hP, hj, hx, hy, hz with
  | [x', y', z'], _, hP, hj, hx, hy, hz =>
    obtain rfl : x' = x := hx
    obtain rfl : y' = y := hy
    obtain rfl : z' = z := hz
    rw [rdM, hP]
    simp only [ha, hb, hc, Bool.true_and]
    have hm : matchT a b c = s := by
      have e1 : (matchT a b c).data.toList = s.data.toList := by rw [matchT_list, ← hj, ← ea, ← eb, ← ec]; rfl
      exact (ba_self _).trans ((congrArg (fun l : List UInt8 => (⟨l.toArray⟩ : ByteArray)) e1).trans (ba_self s).symm)
    cases hv : mOk 11 a b c
    · simp
    · rw [if_pos rfl, if_pos]
      · rfl
      · exact ⟨by rw [matchX, hv]; exact hm, rfl⟩
  | [x', y', z', f], _, hP, hj, hx, hy, hz =>
    obtain rfl : x' = x := hx
    obtain rfl : y' = y := hy
    obtain rfl : z' = z := hz
    rw [rdM, hP]
    simp only [ha, hb, hc, Bool.true_and]
    cases hv : mOk 11 a b c
    · simp
    · have hm : (matchX a b c true = s) ↔ f = [102] := by
        rw [matchX, hv, if_pos rfl]
        constructor
        · intro h
          have h4 := split4 a b c
          rw [h, hP] at h4
          injection h4 with _ h4
          injection h4 with _ h4
          injection h4 with _ h4
          injection h4 with h4 _
        · intro h
          have e1 : (matchF a b c true).data.toList = s.data.toList := by rw [matchF_list, ← hj, h, ← ea, ← eb, ← ec]; rfl
          exact (ba_self _).trans ((congrArg (fun l : List UInt8 => (⟨l.toArray⟩ : ByteArray)) e1).trans (ba_self s).symm)
      by_cases hf : f = [102]
      · rw [if_pos (by simp [hf]), if_pos ⟨hm.2 hf, rfl⟩]; rfl
      · rw [if_neg (by simp [hf]), if_neg (fun h => hf (hm.1 h.1))]
  | x' :: y' :: z' :: f :: g :: r, _, hP, hj, hx, hy, hz =>
    have hl : decide ((x' :: y' :: z' :: f :: g :: r).length = 4) = false := by simp
    rw [rdM, hP, hl]
    rw [if_neg]
    rintro ⟨h, hv⟩
    rw [matchX, hv, if_pos rfl] at h
    have h4 := split3 a b c
    rw [matchF, if_neg (by decide)] at h
    rw [h, hP] at h4
    injection h4 with _ h4
    injection h4 with _ h4
    injection h4 with _ h4
    cases h4
abbrev Z4 : (Int × Int × Int × Bool) × Bool := ((0, 0, 0, false), false)
theorem rdM_short {s : ByteArray} {P : List (List UInt8)} (hP : splitL 32 s.data.toList = P) (h : P.length < 3) : rdM s.data.toList = Z4 := by
  rw [rdM, hP]
  match P, h with
  | [], _ => rfl
  | [_], _ => rfl
  | [_, _], _ => rfl
theorem rdM_long {s : ByteArray} {P : List (List UInt8)} (hP : splitL 32 s.data.toList = P) (h : 4 < P.length) : rdM s.data.toList = Z4 := by
  rw [rdM, hP]
  match P, h with
  | _ :: _ :: _ :: _ :: _ :: _, _ => rfl
theorem rdM_bad {s : ByteArray} {x y z : List UInt8} {R : List (List UInt8)} (hP : splitL 32 s.data.toList = x :: y :: z :: R) (h : ((numR ⟨x.toArray⟩).2 && (numR ⟨y.toArray⟩).2 && (numR ⟨z.toArray⟩).2) = false) : rdM s.data.toList = Z4 := by
  rw [rdM, hP]
  match R with
  | [] => simp only [h, Bool.false_and]; rfl
  | [f] => simp only [h, Bool.false_and]; rfl
  | _ :: _ :: _ => rfl
theorem tup_m {a a' b b' c c' : Int} {f f' q q' : Bool} (h : ((a, b, c, f), q) = ((a', b', c', f'), q')) : Ending.returned (.tuple #[.agg #[.int .i64 a, .int .i64 b, .int .i64 c, .bool f], .bool q]) = .returned (.tuple #[.agg #[.int .i64 a', .int .i64 b', .int .i64 c', .bool f'], .bool q']) := by
  injection h with h1 h2
  injection h1 with h1 h3
  injection h3 with h3 h4
  injection h4 with h4 h5
  rw [h1, h2, h3, h4, h5]
theorem list3m {α : Type} {P : List α} (h : 3 ≤ P.length) : ∃ x y z R, P = x :: y :: z :: R := by
  match P, h with
  | x :: y :: z :: R, _ => exact ⟨x, y, z, R, rfl⟩
end Go.Proofs.YtggnajoocfmgpaaDoor
