/- A drawn region walked in an order of one's own: operations that yield are taken, unwanted ones are passed. No conditions. -/
import Derived.Test.YtcfbihponecblaaG00
import Derived.Test.YtcfbihponecblaaG01
import Derived.Deep.DeepCutAuto
import Derived.Deep.RegionHeld3
/- Ratings: the checks of both functions. No conditions. -/
namespace Go.Proofs.Ytcfbihponecblaa
set_option linter.unusedSimpArgs false
set_option linter.unusedVariables false
open Go.RowKit

def validB (a b : Int) : Bool := inB a 0 4000 && inB b 0 1000000
end Go.Proofs.Ytcfbihponecblaa
/- Rules as data; their copies and comparisons by the laws; structs that hold structs, opened. No conditions. -/
namespace Go.Proofs.Ytcfbihponecblaa
set_option linter.unusedSimpArgs false
set_option linter.unusedVariables false
open Go.RowKit Go.WideShapes Go.ChangeShapes Go.Deep

/-- The fields of rules. -/
structure Ru where
  p : Int
  s : Int
  st : Bool
  sk : Bool
  re : Bool
  fe : Bool
  ag : Bool
  ca : Int
  sl : Int
def Ru.same (a b : Ru) : Bool := (a.p == b.p) && (a.s == b.s) && (a.st == b.st) && (a.sk == b.sk) && (a.re == b.re) && (a.fe == b.fe) && (a.ag == b.ag) && (a.ca == b.ca) && (a.sl == b.sl)
section
variable {H : Type} {enc : TypeId × Value → H} {P : Program} {w : World} {base : Nat} {spare : Nat → Bool} {held : Bool}
/-- A field of a struct, of any size. -/
theorem nest_field {t : TypeId} {fs : Array Field} {fuel : Nat} {cs : List Value} {x : DataW H × List MemPlace} (ht : P.underlying t = some (.struct fs)) (h : DataW.trod enc P w base spare held fuel t cs = some x)
    {j : Nat} {f : Field} (hj : fs[j]? = some f) {o m : Nat} (ho : f.offset = o) (hm : P.cellsOf f.type = m) : ∃ (n : Nat) (y : DataW H × List MemPlace), DataW.trod enc P w base spare held n f.type ((cs.drop o).take m) = some y := by
  subst ho hm
  obtain ⟨xs, n, _, _, _, hxl, hg⟩ := DataW.trod_struct ht h
  have hjl : j < fs.size := (Array.getElem?_eq_some_iff.1 hj).1
  have h1 := hg j f hj
  have hys : xs[j]? = some (xs[j]'(by omega)) := List.getElem?_eq_getElem (by omega)
  exact ⟨n, _, h1.trans hys⟩
/-- A struct by value. -/
theorem open_cells (k : Nat) {r : Reach} {b0 : Nat} {t : TypeId} {fs : Array Field} {v : Value} {d : DataW H} {p : List MemPlace} (hs : P.underlying t = some (.struct fs)) (hC : P.cellsOf t = k)
    (hv : Value.okWide P w r b0 t v) (h : DataW.Trod enc P w base spare held t v d p) :
    ∃ cs : List Value, v = .agg cs.toArray ∧ cs.length = k ∧ ∃ fuel x, DataW.trod enc P w base spare held fuel t cs = some x := by
  subst hC
  obtain ⟨cs, rfl, hsz⟩ := okWide_struct hs hv
  obtain ⟨l⟩ := cs
  obtain ⟨fuel, hf⟩ := h
  exact ⟨l, rfl, by simpa using hsz, fuel, _, hf⟩
end
theorem list17 {α : Type} {l : List α} (h : l.length = 17) : ∃ a0 a1 a2 a3 a4 a5 a6 a7 a8 a9 a10 a11 a12 a13 a14 a15 a16, l = [a0, a1, a2, a3, a4, a5, a6, a7, a8, a9, a10, a11, a12, a13, a14, a15, a16] := by
  match l, h with
  | [a0, a1, a2, a3, a4, a5, a6, a7, a8, a9, a10, a11, a12, a13, a14, a15, a16], _ => exact ⟨_, _, _, _, _, _, _, _, _, _, _, _, _, _, _, _, _, rfl⟩
theorem boxed_ (w : World) (o : Obj) : Below w.heap.size w (w.alloc o) := Below.alloc (Below.refl _ _) (Nat.le_refl _) o
theorem below_boxed {w w' : World} {o : Obj} (h : Below (w.alloc o).heap.size (w.alloc o) w') : Below w.heap.size w w' := (boxed_ w o).trans (h.mono (sizeAlloc _ _))
theorem Sl.boxed {w : World} {size n : Nat} {A : Option Addr} {xs : List Value} (h : Sl w w.heap.size size A n xs) (o : Obj) : Sl (w.alloc o) (w.alloc o).heap.size size A n xs := h.later (boxed_ w o)
theorem Sl.set_ {w : World} {B size n : Nat} {A : Option Addr} {xs : List Value} (h : Sl w B size A n xs) {p : Addr} (u : Value) (hne : ∀ b off, A = some ⟨b, off, none⟩ → p.block ≠ b) : Sl (w.setCell p u) B size A n xs :=
  ⟨h.1, fun hn => by
    obtain ⟨b, off, e, hb, hc⟩ := h.2 hn
    refine ⟨b, off, e, hb, fun j v hv => ?_⟩
    rw [World.cell?_setCell_other _ _ _ _ (fun he => hne b off e (by rw [he]))]
    exact hc j v hv⟩
theorem Sl.copied {w : World} {zs : List Int} {g n B : Nat} {t : TypeId} (hg : g = w.heap.size) (hB : g < B) (h : zs.length = n) : Sl (w.alloc (.cells (zs.map (Value.int .i64)).toArray t)) B 1 (some ⟨g, 0, none⟩) n (zs.map (Value.int .i64)) := by
  subst hg
  exact ⟨by simp [h], fun _ => ⟨_, 0, rfl, hB, fun j u hu => by rw [Nat.zero_add, (Blk.new _ _ _).cell]; simpa using hu⟩⟩
theorem Sl.grow {w : World} {B size n : Nat} {A : Option Addr} {xs : List Value} (h : Sl w B size A n xs) (hB : B ≤ w.heap.size) (o : Obj) : Sl (w.alloc o) B size A n xs := h.keep fun b off hb => World.cell?_alloc_lt w o ⟨b, off, none⟩ (Nat.lt_of_lt_of_le hb hB)
/-- X holds of every world that has at least the blocks of w', and the cells of those from lo on. -/
def Kept (lo : Nat) (w' : World) (X : World → Prop) : Prop := ∀ w'', w'.heap.size ≤ w''.heap.size → (∀ b o, lo ≤ b → b < w'.heap.size → w''.cell? ⟨b, o, none⟩ = w'.cell? ⟨b, o, none⟩) → X w''
theorem Kept.use {lo : Nat} {w' w'' : World} {X : World → Prop} (hz : w'.heap.size ≤ w''.heap.size) (hk : ∀ b o, lo ≤ b → b < w'.heap.size → w''.cell? ⟨b, o, none⟩ = w'.cell? ⟨b, o, none⟩) (h : Kept lo w' X) : X w'' := h w'' hz hk
theorem Kept.now {lo : Nat} {w' : World} {X : World → Prop} (h : Kept lo w' X) : X w' := h w' (Nat.le_refl _) (fun _ _ _ _ => rfl)
theorem Kept.lower {lo lo' : Nat} {w' : World} {X : World → Prop} (h : Kept lo w' X) (hl : lo' ≤ lo) : Kept lo' w' X := fun w'' hz hk => h w'' hz (fun b o h1 h2 => hk b o (Nat.le_trans hl h1) h2)
theorem Kept.later {lo : Nat} {w w' : World} {X : World → Prop} (h : Kept lo w X) (hb : Below w.heap.size w w') : Kept lo w' X := fun w'' hz hk => h w'' (Nat.le_trans hb.size hz) (fun b o h1 h2 => (hk b o h1 (Nat.lt_of_lt_of_le h2 hb.size)).trans (hb.cell (p := ⟨b, o, none⟩) h2))
theorem Kept.alloc {lo : Nat} {w : World} {X : World → Prop} (h : Kept lo w X) (o : Obj) : Kept lo (w.alloc o) X := h.later (boxed_ w o)
theorem Kept.set {lo : Nat} {w : World} {X : World → Prop} (h : Kept lo w X) {p : Addr} (u : Value) (hp : p.block < lo) : Kept lo (w.setCell p u) X := fun w'' hz hk => h w'' (Nat.le_trans (sizeSet _ _ _) hz) (fun b o h1 h2 => (hk b o h1 (Nat.lt_of_lt_of_le h2 (sizeSet _ _ _))).trans (World.cell?_setCell_other _ _ _ _ (fun he => by rw [he] at hp; exact absurd h1 (Nat.not_le_of_lt hp))))
theorem Kept.drew {lo : Nat} {w : World} {X : World → Prop} (h : Kept lo w X) : Kept lo w.drew X := fun w'' hz hk => h w'' hz hk
theorem Kept.lowerS {lo g n size : Nat} {w' : World} {xs : List Value} (h : Kept g w' (fun w'' => Sl w'' w''.heap.size size (some ⟨g, 0, none⟩) n xs)) (hl : lo ≤ g) : Kept lo w' (fun w'' => Sl w'' w''.heap.size size (some ⟨g, 0, none⟩) n xs) := h.lower hl
theorem Kept.copied {w : World} {zs : List Int} {g n : Nat} {t : TypeId} (hg : g = w.heap.size) (h : zs.length = n) : Kept g (w.alloc (.cells (zs.map (Value.int .i64)).toArray t)) (fun w'' => Sl w'' w''.heap.size 1 (some ⟨g, 0, none⟩) n (zs.map (Value.int .i64))) := by
  subst hg
  intro w'' hz hk
  have hz' : w.heap.size + 1 ≤ w''.heap.size := by simpa using hz
  refine ⟨by simp [h], fun _ => ⟨_, 0, rfl, by omega, fun j u hu => ?_⟩⟩
  rw [Nat.zero_add, hk _ _ (Nat.le_refl _) (by simp), (Blk.new _ _ _).cell]
  simpa using hu
end Go.Proofs.Ytcfbihponecblaa
/- A drawn region walked in an order of one's own: operations that yield are taken, unwanted ones are passed. No conditions. -/
namespace Go.Proofs.Ytcfbihponecblaa
set_option linter.unusedSimpArgs false
set_option linter.unusedVariables false

section
variable {P : Program} {ops : Array Oper} {Q : Exit → Act → World → Prop} {md : Region.Mode} {S : World → Prop}
theorem at_of_drop {i : Nat} {oi : Oper} {rest : List Oper} (hd : ops.toList.drop i = oi :: rest) : ops[i]? = some oi := by
  have h : (ops.toList.drop i)[0]? = some oi := by rw [hd]; rfl
  rw [List.getElem?_drop] at h
  simpa using h
theorem H_take {i : Nat} {oi : Oper} {rest : List Oper} {v : Value} {fuel : Nat} {listed : Array Bool} {a : Act} {w : World} (hd : ops.toList.drop i = oi :: rest)
    (hs : Region.noSelect ops = true) (hf : Region.free md ops listed i = true) (hr : (Region.ready md ops listed).contains i = true)
    (hQ : ∀ c a w, Q (.panic c) (a.put oi.dst v) w → Q (.panic c) a w) (hw : Region.wanted oi (yielded ops a.tmps) = true)
    (hv : ∀ w, S w → (execOp a.eval oi).run P w = .ok (.value v) w) (hS : S w)
    (h : wpAnyH P md ops Q S fuel (listed.setIfInBounds i true) (a.put oi.dst v) w) : wpAnyH P md ops Q S (fuel + 1) listed a w :=
  wpAnyH_take (at_of_drop hd) hs hf hr hQ (Or.inl ⟨hw, hv⟩) hS h
theorem H_pass {i : Nat} {oi : Oper} {rest : List Oper} {fuel : Nat} {listed : Array Bool} {a : Act} {w : World} (hd : ops.toList.drop i = oi :: rest)
    (hs : Region.noSelect ops = true) (hf : Region.free md ops listed i = true) (hr : (Region.ready md ops listed).contains i = true)
    (hQ : ∀ c a w, Q (.panic c) (a.put oi.dst undef) w → Q (.panic c) a w) (hw : Region.wanted oi (yielded ops a.tmps) = false) (hS : S w)
    (h : wpAnyH P md ops Q S fuel (listed.setIfInBounds i true) (a.put oi.dst undef) w) : wpAnyH P md ops Q S (fuel + 1) listed a w :=
  wpAnyH_take (at_of_drop hd) hs hf hr hQ (Or.inr ⟨hw, rfl⟩) hS h
theorem H_call {i : Nat} {oi : Oper} {rest : List Oper} {fuel : Nat} {listed : Array Bool} {a : Act} {w : World} (hd : ops.toList.drop i = oi :: rest)
    (hr : Region.ready md ops listed = [i])
    (h : ∀ K' : Act → World → Prop, Shut (∀ a w, S w → (S w → wpAnyH P md ops Q S fuel (listed.setIfInBounds i true) a w) → K' a w) → if Region.wanted oi (yielded ops a.tmps) = true then Oper.wp P oi a w K' Q else K' (a.put oi.dst undef) w) :
    wpAnyH P md ops Q S (fuel + 1) listed a w :=
  wpAnyH_ready hr (by simp) (AllReadyH.cons (at_of_drop hd) h AllReadyH.nil)
theorem H_two {i j : Nat} {oi oj : Oper} {ri rj : List Oper} {fuel : Nat} {listed : Array Bool} {a : Act} {w : World} (hdi : ops.toList.drop i = oi :: ri) (hdj : ops.toList.drop j = oj :: rj)
    (hr : Region.ready md ops listed = [i, j])
    (hi : ∀ K' : Act → World → Prop, Shut (∀ a w, S w → (S w → wpAnyH P md ops Q S fuel (listed.setIfInBounds i true) a w) → K' a w) → if Region.wanted oi (yielded ops a.tmps) = true then Oper.wp P oi a w K' Q else K' (a.put oi.dst undef) w)
    (hj : ∀ K' : Act → World → Prop, Shut (∀ a w, S w → (S w → wpAnyH P md ops Q S fuel (listed.setIfInBounds j true) a w) → K' a w) → if Region.wanted oj (yielded ops a.tmps) = true then Oper.wp P oj a w K' Q else K' (a.put oj.dst undef) w) :
    wpAnyH P md ops Q S (fuel + 1) listed a w :=
  wpAnyH_ready hr (by simp) (AllReadyH.cons (at_of_drop hdi) hi (AllReadyH.cons (at_of_drop hdj) hj AllReadyH.nil))
end
end Go.Proofs.Ytcfbihponecblaa
