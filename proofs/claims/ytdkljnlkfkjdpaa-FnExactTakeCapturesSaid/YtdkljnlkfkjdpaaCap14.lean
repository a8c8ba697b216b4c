/- Captures: copies of lists, and the seeds behind the captures as plain data. Conditions: lengths below 2^20. -/
import Derived.Test.YtdkljnlkfkjdpaaCap13
namespace Go.Proofs.Ytdkljnlkfkjdpaa
set_option linter.unusedSimpArgs false
set_option linter.unusedVariables false
open Go.RowKit

def CoPost (n : Nat) (zs : List Int) (w : World) (e : Ending) (w' : World) : Prop :=
  ∃ (A : Option Addr) (g cap : Nat), e = .returned (.slice A n cap) ∧ w.heap.size ≤ g ∧ n ≤ cap ∧ cap ≤ maxLen ∧ OwnV w' g 2 1 A n (zs.map (Value.int .i64)) ∧ Below w.heap.size w w'
theorem copyNumbers_any (A : Option Addr) (n c : Nat) (zs : List Int) (w : World) (hs : Sl w w.heap.size 1 A n (zs.map (Value.int .i64))) (hn : n ≤ 1048576) : Calls Try.prog 41 #[.slice A n c] w (CoPost n zs w) := by
  obtain ⟨i0, ti, tz0, tz1, tz2⟩ := info_parts info_int64t
  have HS := Lib.hid hs
  clear hs
  go_enter Try.func41, Try.ntmps41
  go_wp2_with (at_builtin; refine wpList_append_sl _ rfl _ _ 24 rfl w.heap.size 2 i0 _ 1 8 Try.underlying24 ti tz0 tz1 tz2 rfl (by decide) _ 0 [] rfl (row_made0 rfl (Nat.le_refl _)) w.heap.size A n c (zs.map (Value.int .i64)) rfl (HS.out.below (boxed_ _ _)) ?c1 ?c2 ?c3 ?c4 ?_)
  case c1 => intro u hu; obtain ⟨z, _, rfl⟩ := List.mem_map.1 hu; rfl
  case c2 => unfold maxLen; omega
  case c3 => omega
  case c4 => first | (simp; done) | (simp; omega)
  intro v' w1 hown1 hg1 _
  have hbn : Below w.heap.size w w1 := below_app (by (repeat' (first | (with_reducible exact Below.refl _ _) | (with_reducible assumption) | (with_reducible refine Below.alloc ?_ ?_ _) | (with_reducible refine Below.drew ?_) | (with_reducible refine belowDrewN ?_ _) | (with_reducible refine Below.setCell ?_ ?_ _) | (with_reducible refine Below.via (by with_reducible assumption) ?_ ?_) | (with_reducible refine Below.viaD (by with_reducible assumption) ?_ ?_) | (with_reducible exact Below.size (by with_reducible assumption)) | go_size | (with_reducible refine Nat.le_trans ?_ (Below.size (by with_reducible assumption))) | (with_reducible refine Nat.le_trans ?_ (sizeAlloc _ _)) | (with_reducible refine Nat.le_trans ?_ (sizeSet _ _ _)) | (with_reducible refine Nat.le_trans ?_ (sizeDrew _))))) (row_made0 rfl (Nat.le_refl _)) hg1 (Nat.le_refl _) (by simp)
  obtain ⟨A', g, cap, rfl, hg, hnc, hcm, ho⟩ := own_of_row hown1
  have HN := Lib.hid hbn
  clear hown1 hg1 hbn
  go_wp2_with fail
  go_ret
  exact ⟨A', g, cap, rfl, hg, hnc, hcm, ho, HN.out⟩
theorem l00Own_any (A : Option Addr) (n c : Nat) (zs : List Int) (w : World) (hs : Sl w w.heap.size 1 A n (zs.map (Value.int .i64))) (hn : n ≤ 1048576) : Calls Try.prog 61 #[.slice A n c] w (CoPost n zs w) := by
  obtain ⟨i0, ti, tz0, tz1, tz2⟩ := info_parts info_int64t
  have HS := Lib.hid hs
  clear hs
  go_enter Try.func61, Try.ntmps61
  go_wp2_with (at_builtin; refine wpList_append_sl _ rfl _ _ 24 rfl w.heap.size 2 i0 _ 1 8 Try.underlying24 ti tz0 tz1 tz2 rfl (by decide) _ 0 [] rfl (row_made0 rfl (Nat.le_refl _)) w.heap.size A n c (zs.map (Value.int .i64)) rfl (HS.out.below (boxed_ _ _)) ?c1 ?c2 ?c3 ?c4 ?_)
  case c1 => intro u hu; obtain ⟨z, _, rfl⟩ := List.mem_map.1 hu; rfl
  case c2 => unfold maxLen; omega
  case c3 => omega
  case c4 => first | (simp; done) | (simp; omega)
  intro v' w1 hown1 hg1 _
  have hbn : Below w.heap.size w w1 := below_app (by (repeat' (first | (with_reducible exact Below.refl _ _) | (with_reducible assumption) | (with_reducible refine Below.alloc ?_ ?_ _) | (with_reducible refine Below.drew ?_) | (with_reducible refine belowDrewN ?_ _) | (with_reducible refine Below.setCell ?_ ?_ _) | (with_reducible refine Below.via (by with_reducible assumption) ?_ ?_) | (with_reducible refine Below.viaD (by with_reducible assumption) ?_ ?_) | (with_reducible exact Below.size (by with_reducible assumption)) | go_size | (with_reducible refine Nat.le_trans ?_ (Below.size (by with_reducible assumption))) | (with_reducible refine Nat.le_trans ?_ (sizeAlloc _ _)) | (with_reducible refine Nat.le_trans ?_ (sizeSet _ _ _)) | (with_reducible refine Nat.le_trans ?_ (sizeDrew _))))) (row_made0 rfl (Nat.le_refl _)) hg1 (Nat.le_refl _) (by simp)
  obtain ⟨A', g, cap, rfl, hg, hnc, hcm, ho⟩ := own_of_row hown1
  have HN := Lib.hid hbn
  clear hown1 hg1 hbn
  go_wp2_with fail
  go_ret
  exact ⟨A', g, cap, rfl, hg, hnc, hcm, ho, HN.out⟩
/-- The pits with the first k of a list emptied. -/
def setZ (zs l : List Int) : Nat → List Int
  | 0 => zs
  | k + 1 => (setZ zs l k).set (l.getD k 0).toNat 0
theorem setZ_len (zs l : List Int) (k : Nat) : (setZ zs l k).length = zs.length := by
  induction k with
  | zero => rfl
  | succ k ih => rw [setZ, List.length_set, ih]
/-- No pit twice. -/
def ndL (l : List Int) : Prop := ∀ i j, i < j → j < l.length → l.getD i 0 ≠ l.getD j 0
theorem setZ_at {P : Nat} {zs l : List Int} (hn : ndL l) (hi : inPits P l) {k : Nat} (hk : k < l.length) : ∀ j, j ≤ k → (setZ zs l j).getD (l.getD k 0).toNat 0 = zs.getD (l.getD k 0).toNat 0 := by
  intro j
  induction j with
  | zero => intro _; rfl
  | succ j ih =>
    intro hj
    obtain ⟨a, ea, _⟩ := hi.2 k hk
    obtain ⟨b, eb, _⟩ := hi.2 j (by omega)
    have hne := hn j k (by omega) hk
    have h1 : (l.getD j 0).toNat ≠ (l.getD k 0).toNat := by omega
    rw [setZ, List.getD_eq_getElem?_getD, List.getElem?_set, if_neg h1, ← List.getD_eq_getElem?_getD]
    exact ih (by omega)
theorem runL_nd {P : Nat} {pl : Int} {zs : List Int} : ∀ k, ndL (runL P pl zs k) := by
  intro k
  induction k with
  | zero => intro i j _ hj; simp [runL] at hj
  | succ k ih =>
    rw [runL]
    split
    · intro i j hij hj
      rcases j with _ | j
      · omega
      · rcases i with _ | i
        · rw [List.getD_cons_zero, List.getD_cons_succ]
          obtain ⟨m, e, hm⟩ := (runL_in (P := P) (pl := pl) (zs := zs) k).2 _ (getD_mem 0 (show j < (runL P pl zs k).length by simpa using hj))
          rw [e]; omega
        · rw [List.getD_cons_succ, List.getD_cons_succ]
          exact ih i j (by omega) (by simpa using hj)
    · intro i j _ hj; simp at hj
theorem ndL_nil : ndL [] := fun i j _ hj => by simp at hj
theorem ndL_one (a : Int) : ndL [a] := fun i j h hj => by simp at hj; omega
theorem ndL_two {a b : Int} (h : a ≠ b) : ndL [a, b] := fun i j hij hj => by
  have : i = 0 ∧ j = 1 := by simp at hj; omega
  obtain ⟨rfl, rfl⟩ := this
  simpa using h
theorem takenL_nd {P : Nat} {pl ca last : Int} {zs : List Int} (h2 : 2 ≤ P) (hk : last < 2 * (P : Int)) : ndL (takenL P pl ca last zs) := by
  unfold takenL takenK
  split
  · exact ndL_nil
  · split
    · exact runL_nd _
    · split
      · split
        · exact ndL_two (by omega)
        · exact ndL_nil
      · split
        · split
          · exact ndL_one _
          · exact ndL_nil
        · exact ndL_nil
theorem capL_nd {P p : Nat} {ca sl last : Int} {zs : List Int} (h2 : 2 ≤ P) (hk : last < 2 * (P : Int)) : ndL (capL P p ca sl last zs) := by
  unfold capL
  split
  · exact ndL_nil
  · exact takenL_nd h2 hk
def stP (st : List Int) (p : Nat) (v : Int) : List Int := st.set p (st.getD p 0 + v)
theorem stP_len (st : List Int) (p : Nat) (v : Int) : (stP st p v).length = st.length := by simp [stP]
theorem stP_at {st : List Int} {p : Nat} (v : Int) (h : p < st.length) : (stP st p v).getD p 0 = st.getD p 0 + v := by
  rw [stP, List.getD_eq_getElem?_getD, List.getElem?_set, if_pos rfl, if_pos h]; rfl
theorem stP_step {st : List Int} {p : Nat} (v u : Int) (h : p < st.length) : (stP st p v).set p (st.getD p 0 + v + u) = stP st p (v + u) := by
  rw [stP, stP, List.set_set, Int.add_assoc]
theorem stP_zero {st : List Int} {p : Nat} (h : p < st.length) : stP st p 0 = st := by
  rw [stP, Int.add_zero, List.getD_eq_getElem?_getD, List.getElem?_eq_getElem h]
  simp
/-- A list of numbers, and what its block holds behind it. -/
def arR (zs : List Int) (rest : List Value) : Array Value := (zs.map (Value.int .i64) ++ rest).toArray
theorem arR_at {zs : List Int} (rest : List Value) {d : Nat} (h : d < zs.length) : (arR zs rest)[d]? = some (.int .i64 (zs.getD d 0)) := by
  rw [arR, List.getElem?_toArray, List.getElem?_append_left (by simpa using h)]
  exact getD_map_int h
theorem arR_set {zs : List Int} (rest : List Value) {d : Nat} (h : d < zs.length) (v : Int) : (arR zs rest).setIfInBounds d (.int .i64 v) = arR (zs.set d v) rest := by
  rw [arR, List.setIfInBounds_toArray, List.set_append_left _ _ (by simpa using h), ← List.map_set]
  rfl
end Go.Proofs.Ytdkljnlkfkjdpaa
