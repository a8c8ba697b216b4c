/- Slices of structs of mixed one-cell fields as flat lists of cells. No conditions. -/
import Derived.Test.YteeplmnjipddaaaFlat
namespace Go.Proofs.Yteeplmnjipddaaa
set_option linter.unusedSimpArgs false
set_option linter.unusedVariables false
open Go.RowKit Go.WideShapes Go.ChangeShapes Go.Deep

/-- The first k cells are copied, the others are still the first ones. -/
def halfV (ds vs : List Value) (k : Nat) : Array Value := (vs.take k ++ ds.drop k).toArray
theorem halfV_zero (ds vs : List Value) : halfV ds vs 0 = ds.toArray := by simp [halfV]
theorem halfV_all {ds vs : List Value} (h : ds.length = vs.length) : halfV ds vs vs.length = vs.toArray := by rw [halfV, List.take_length, ← h, List.drop_length, List.append_nil]
theorem halfV_get {ds vs : List Value} {k i : Nat} (hl : ds.length = vs.length) (hk : k ≤ i) (h : i < vs.length) : (halfV ds vs k)[i]? = ds[i]? := by
  simp only [halfV, List.getElem?_toArray]
  rw [List.getElem?_append_right (by simp; omega), List.getElem?_drop]
  congr 1
  simp
  omega
theorem halfV_set {ds vs : List Value} {k : Nat} {v : Value} (hl : ds.length = vs.length) (hv : vs[k]? = some v) : (halfV ds vs k).setIfInBounds k v = halfV ds vs (k + 1) := by
  have hk : k < vs.length := by
    rcases Nat.lt_or_ge k vs.length with h | h
    · exact h
    · rw [List.getElem?_eq_none h] at hv; cases hv
  have e : vs[k] = v := by rw [List.getElem?_eq_getElem hk] at hv; exact Option.some.inj hv
  simp only [halfV, List.setIfInBounds_toArray]
  rw [List.set_append_right _ _ (by simp; omega), List.length_take, Nat.min_eq_left (Nat.le_of_lt hk), Nat.sub_self, List.drop_eq_getElem_cons (by omega), List.set_cons_zero,
    List.take_succ_eq_append_getElem hk, List.append_assoc, e]
  rfl
/-- The number, the truth in a cell of a list. -/
def intAt (vs : List Value) (i : Nat) : Int := match vs[i]? with
  | some (.int _ a) => a
  | _ => 0
def boolAt (vs : List Value) (i : Nat) : Bool := match vs[i]? with
  | some (.bool a) => a
  | _ => false
theorem intAt_eq {vs : List Value} {i : Nat} {a : Int} {k : IntKind} (h : vs[i]? = some (.int k a)) : intAt vs i = a := by rw [intAt, h]
theorem boolAt_eq {vs : List Value} {i : Nat} {a : Bool} (h : vs[i]? = some (.bool a)) : boolAt vs i = a := by rw [boolAt, h]
theorem Sl.cellV {w : World} {B n m : Nat} {A : Option Addr} {vs : List Value} (h : Sl w B m A n vs) {k : Nat} (hk : k < n) :
    ∃ b off, A = some ⟨b, off, none⟩ ∧ b < B ∧ vs.length = n * m ∧ ∀ j v, j < m → vs[k * m + j]? = some v → w.cell? ⟨b, off + (k * m + j), none⟩ = some v := by
  obtain ⟨b, off, e, hb, hc⟩ := h.2 (by omega)
  exact ⟨b, off, e, hb, h.1, fun j v _ hv => hc _ _ hv⟩
theorem Blk.slV {w : World} {g : Nat} {t : TypeId} {vs : List Value} {m n : Nat} (h : Blk w g t vs.toArray) (hl : vs.length = n * m) : Sl w w.heap.size m (some ⟨g, 0, none⟩) n vs :=
  ⟨hl, fun _ => ⟨g, 0, rfl, h.lt, fun j u hu => by rw [Nat.zero_add, h.cell]; simpa using hu⟩⟩
section
variable {H : Type} {enc : TypeId × Value → H} {P : Program} {w : World} {spare : Nat → Bool} {held : Bool}
/-- A cell of a slice of structs of one-cell fields. -/
theorem row_cell {e : TypeId} {n size : Nat} {fs : Array Field} {xs : List Value} (he : P.underlying e = some (.struct fs)) (hone : oneCellFields P fs = true) (hsz : fs.size = size) (hl : xs.length = n * size)
    (h : ∀ i, i < n → ∃ (f : Nat) (y : DataW H × List MemPlace), DataW.trod enc P w 0 spare held f e ((xs.drop (i * size)).take size) = some y)
    {i j : Nat} {f : Field} (hi : i < n) (hj : fs[j]? = some f) : ∃ (c : Value) (fu : Nat) (y : DataW H × List MemPlace), xs[i * size + j]? = some c ∧ DataW.trod enc P w 0 spare held fu f.type [c] = some y := by
  subst hsz
  have hjs : j < fs.size := (Array.getElem?_eq_some_iff.1 hj).1
  obtain ⟨fu, y, hy⟩ := h i hi
  obtain ⟨ys, n', _, _, hlen, hyl, hf⟩ := DataW.trod_struct he hy
  obtain ⟨ho, hk⟩ := hone_of hone _ _ hj
  have h1 := hf _ _ hj
  rw [ho, hk] at h1
  have hq : i * fs.size + j < xs.length := by
    rw [hl]
    have : i * fs.size + fs.size ≤ n * fs.size := by rw [← Nat.succ_mul]; exact Nat.mul_le_mul_right _ hi
    omega
  have e1 : (((xs.drop (i * fs.size)).take fs.size).drop j).take 1 = [xs[i * fs.size + j]] := by
    apply List.ext_getElem?
    intro q
    rcases q with _ | q
    · rw [List.getElem?_take, if_pos (by omega), List.getElem?_drop, List.getElem?_take, if_pos (by omega), List.getElem?_drop, Nat.add_zero, List.getElem?_eq_getElem hq]
      rfl
    · rw [List.getElem?_take, if_neg (by omega)]; rfl
  rw [e1] at h1
  have hys : ys[j]? = some (ys[j]'(by omega)) := List.getElem?_eq_getElem (by omega)
  exact ⟨_, n', _, List.getElem?_eq_getElem hq, h1.trans hys⟩
end
end Go.Proofs.Yteeplmnjipddaaa
