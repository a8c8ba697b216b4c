/- Slices that read as lists; lists walked by an index. No conditions. -/
import Derived.Test.YteeplmnjipddaaaNum
import Derived.Test.YteeplmnjipddaaaOpen
import Derived.BigQuiet
import Derived.Deep.QuietTactic
namespace Go.Proofs.Yteeplmnjipddaaa
set_option linter.unusedSimpArgs false
set_option linter.unusedVariables false
open Go.RowKit Go.WideShapes Go.ChangeShapes Go.Deep

/-- The kit's wpQuiet, shut: nothing looks into it on the way. -/
@[irreducible] def WQ (P : Program) (ops : Array Oper) (C : World → Prop) (Q : Act → Prop) (l : List Oper) (a : Act) : Prop := wpQuiet P ops C Q l a
section
variable {P : Program} {ops : Array Oper} {C : World → Prop} {Q : Act → Prop} {l rest : List Oper} {o : Oper} {a : Act}
theorem WQ.of (h : WQ P ops C Q l a) : wpQuiet P ops C Q l a := by unfold WQ at h; exact h
theorem WQ.nil (h : Q a) : WQ P ops C Q [] a := by unfold WQ; exact wpQuiet_nil h
theorem WQ.step (h : ∀ K : Act → Prop, (∀ a, WQ P ops C Q rest a → K a) → if Region.wanted o (yielded ops a.tmps) then o.quiet P a C K else K (a.put o.dst undef)) : WQ P ops C Q (o :: rest) a := by
  unfold WQ
  refine wpQuiet_step (fun K hK => h K (fun a ha => hK a ?_))
  unfold WQ at ha
  exact ha
end
/-- The slice value '.slice A n c' holds the cells xs (size cells an element), in a block below B. -/
structure Sl (w : World) (B size : Nat) (A : Option Addr) (n : Nat) (xs : List Value) : Prop where
  len : xs.length = n * size
  at_ : 0 < n → ∃ b off, A = some ⟨b, off, none⟩ ∧ b < B ∧ ∀ j u, xs[j]? = some u → w.cell? ⟨b, off + j, none⟩ = some u

section
variable {w w' : World} {B B' size n : Nat} {A : Option Addr} {xs : List Value}
theorem Sl.keep (h : Sl w B size A n xs) (hk : ∀ b o, b < B → w'.cell? ⟨b, o, none⟩ = w.cell? ⟨b, o, none⟩) : Sl w' B size A n xs :=
  ⟨h.1, fun hn => by
    obtain ⟨b, off, e, hb, hc⟩ := h.2 hn
    exact ⟨b, off, e, hb, fun j u hu => (hk _ _ hb).trans (hc j u hu)⟩⟩
theorem Sl.mono (h : Sl w B size A n xs) (hB : B ≤ B') : Sl w B' size A n xs :=
  ⟨h.1, fun hn => by
    obtain ⟨b, off, e, hb, hc⟩ := h.2 hn
    exact ⟨b, off, e, Nat.lt_of_lt_of_le hb hB, hc⟩⟩
theorem Sl.below (h : Sl w B size A n xs) (hb : Below B w w') : Sl w' B size A n xs := h.keep fun _ _ hp => hb.cell hp
theorem Sl.later (h : Sl w w.heap.size size A n xs) (hb : Below w.heap.size w w') : Sl w' w'.heap.size size A n xs := (h.below hb).mono hb.size
theorem Sl.drew (h : Sl w B size A n xs) : Sl w.drew B size A n xs := ⟨h.1, h.2⟩
theorem Sl.drewN (h : Sl w B size A n xs) (k : Nat) : Sl (w.drewN k) B size A n xs := ⟨h.1, h.2⟩
theorem Sl.nil (w : World) (B size : Nat) (A : Option Addr) : Sl w B size A 0 [] := ⟨by simp, fun h => absurd h (by omega)⟩
end
theorem getD_map_int {zs : List Int} {k : Nat} (h : k < zs.length) : (zs.map (Value.int .i64))[k]? = some (.int .i64 (zs.getD k 0)) := by
  rw [List.getElem?_map, List.getElem?_eq_getElem h, List.getD_eq_getElem?_getD, List.getElem?_eq_getElem h]; rfl
/-- The cell of an element of a slice of numbers. -/
theorem Sl.int {w : World} {B n : Nat} {A : Option Addr} {zs : List Int} (h : Sl w B 1 A n (zs.map (Value.int .i64))) {k : Nat} (hk : k < n) :
    ∃ b off z, A = some ⟨b, off, none⟩ ∧ b < B ∧ Hid (zs.getD k 0 = z) ∧ w.cell? ⟨b, off + k, none⟩ = some (.int .i64 z) := by
  obtain ⟨b, off, e, hb, hc⟩ := h.2 (by omega)
  have hl := h.1
  rw [List.length_map] at hl
  exact ⟨b, off, _, e, hb, rfl, hc k _ (getD_map_int (by omega))⟩
theorem Sl.ints {w : World} {B n : Nat} {A : Option Addr} {zs : List Int} (h : Sl w B 1 A n (zs.map (Value.int .i64))) : zs.length = n := by
  have hl := h.1
  rw [List.length_map] at hl
  omega

theorem all_true {α : Type} {p : α → Bool} {zs : List α} {d : α} (h : ∀ j, j < zs.length → p (zs.getD j d) = true) : zs.all p = true := by
  rw [List.all_eq_true]
  intro x hx
  obtain ⟨j, hj, rfl⟩ := List.getElem_of_mem hx
  have := h j hj
  rwa [List.getD_eq_getElem?_getD, List.getElem?_eq_getElem hj] at this
theorem all_false {α : Type} {p : α → Bool} {zs : List α} {d : α} {k : Nat} (hk : k < zs.length) (h : p (zs.getD k d) = false) : zs.all p = false := by
  rw [List.all_eq_false]
  refine ⟨zs[k], List.getElem_mem hk, ?_⟩
  rw [List.getD_eq_getElem?_getD, List.getElem?_eq_getElem hk] at h
  simp at h
  simp [h]
theorem take_succ_getD {α : Type} {zs : List α} {k : Nat} (d : α) (h : k < zs.length) : zs.take (k + 1) = zs.take k ++ [zs.getD k d] := by
  rw [List.take_succ_eq_append_getElem h, List.getD_eq_getElem?_getD, List.getElem?_eq_getElem h]; rfl
theorem getD_mem {α : Type} {zs : List α} {k : Nat} (d : α) (h : k < zs.length) : zs.getD k d ∈ zs := by
  rw [List.getD_eq_getElem?_getD, List.getElem?_eq_getElem h]; exact List.getElem_mem h

theorem cell_lt {w : World} {b o : Nat} {u : Value} (h : w.cell? ⟨b, o, none⟩ = some u) : b < w.heap.size := by
  rcases Nat.lt_or_ge b w.heap.size with hlt | hge
  · exact hlt
  · have e : w.heap[b]? = none := Array.getElem?_eq_none hge
    simp [World.cell?, e] at h

section
variable {H : Type} {enc : TypeId × Value → H} {P : Program} {w : World} {spare : Nat → Bool} {held : Bool}
/-- A place that holds a slice: its cells, and that each element reads. -/
theorem leaf_row {t e size : Nat} {fuel : Nat} {v : Value} {x : DataW H × List MemPlace} (ht : P.underlying t = some (.slice e)) (hC : P.cellsOf e = size) (hsz : 0 < size)
    (hf : DataW.trod enc P w 0 spare held fuel t [v] = some x) :
    ∃ (A : Option Addr) (n c : Nat) (xs : List Value), v = .slice A n c ∧ n ≤ c ∧ c ≤ maxLen ∧ Sl w w.heap.size size A n xs ∧
      ∀ i, i < n → ∃ (f : Nat) (y : DataW H × List MemPlace), DataW.trod enc P w 0 spare held f e ((xs.drop (i * size)).take size) = some y := by
  subst hC
  rcases open_slice ht hf with ⟨hcs, _⟩ | ⟨a, len, cap, m, f, D, Pl, hcs, _, hl, hm, hmm, _, hi⟩
  · obtain rfl : v = .slice none 0 0 := by simpa using hcs
    exact ⟨none, 0, 0, [], rfl, Nat.le_refl _, Nat.zero_le _, Sl.nil _ _ _ _, fun i hi => absurd hi (by omega)⟩
  · obtain rfl : v = .slice (some a) len cap := by simpa using hcs
    generalize hn : len = n at *
    generalize hc' : cap = c at *
    have hlm : n ≤ m := by rw [hmm]; split <;> omega
    -- the cells, one after the other
    let g : Nat → Value := fun j => (w.cell? (a.add j)).getD undef
    have hg : ∀ i, i < n → ∃ cs', cs' = ((List.range (n * P.cellsOf e)).map g |>.drop (i * P.cellsOf e)).take (P.cellsOf e) ∧ (∀ j, j < P.cellsOf e → w.cell? (a.add (i * P.cellsOf e + j)) = some (g (i * P.cellsOf e + j))) ∧ ∃ y, DataW.trod enc P w 0 spare held f e cs' = some y := by
      intro i hin
      obtain ⟨cs', hc, htr⟩ := hi i (by omega)
      obtain ⟨_, hcl, hat⟩ := World.cells?_some hc
      have hcell : ∀ j, j < P.cellsOf e → w.cell? (a.add (i * P.cellsOf e + j)) = some (g (i * P.cellsOf e + j)) := by
        intro j hj
        have h1 := hat j hj
        rw [Go.Deep.add_add] at h1
        have h2 : cs'[j]? = some (cs'[j]'(by omega)) := List.getElem?_eq_getElem (by omega)
        simp only [g, h1, h2, Option.getD_some]
      refine ⟨cs', ?_, hcell, _, htr⟩
      apply List.ext_getElem?
      intro j
      have hmul : i * P.cellsOf e + P.cellsOf e ≤ n * P.cellsOf e := by
        rw [← Nat.succ_mul]; exact Nat.mul_le_mul_right _ hin
      rcases Nat.lt_or_ge j (P.cellsOf e) with hj | hj
      · rw [List.getElem?_take, if_pos hj, List.getElem?_drop, List.getElem?_map, List.getElem?_range (by omega)]
        have h1 := hat j hj
        rw [Go.Deep.add_add] at h1
        rw [← h1, hcell j hj]
        rfl
      · rw [List.getElem?_eq_none (by omega), List.getElem?_eq_none (by simp; omega)]
    refine ⟨some a, n, c, (List.range (n * P.cellsOf e)).map g, rfl, hl, hm, ⟨by simp, fun hn => ?_⟩, fun i hin => ?_⟩
    · obtain ⟨_, _, hc0, _⟩ := hg 0 hn
      have h0 := hc0 0 hsz
      obtain ⟨b, off, spot⟩ := a
      have hspot : spot = none := by simpa [Addr.add] using World.cell?_spot h0
      subst hspot
      refine ⟨b, off, rfl, ?_, fun j u hu => ?_⟩
      · rw [Go.WideShapes.add_plain] at h0; exact cell_lt h0
      · rw [List.getElem?_map] at hu
        have hj : j < n * P.cellsOf e := by
          rcases Nat.lt_or_ge j (n * P.cellsOf e) with h | h
          · exact h
          · rw [List.getElem?_eq_none (by simpa using h)] at hu; cases hu
        rw [List.getElem?_range hj] at hu
        have hu' : g j = u := by simpa using hu
        have hdiv : j / P.cellsOf e < n := Nat.div_lt_of_lt_mul (by rwa [Nat.mul_comm] at hj)
        obtain ⟨_, _, hc1, _⟩ := hg (j / P.cellsOf e) hdiv
        have h1 := hc1 (j % P.cellsOf e) (Nat.mod_lt _ hsz)
        have e1 : j / P.cellsOf e * P.cellsOf e + j % P.cellsOf e = j := by rw [Nat.mul_comm]; exact Nat.div_add_mod _ _
        rw [e1, Go.WideShapes.add_plain, hu'] at h1
        exact h1
    · obtain ⟨cs', hcs', _, y, hy⟩ := hg i hin
      subst hcs'
      exact ⟨f, y, hy⟩
/-- An argument that is a slice. -/
theorem open_row {t e size : Nat} {r : Reach} {b0 : Nat} {v : Value} {d : DataW H} {p : List MemPlace} (ht : P.underlying t = some (.slice e)) (hC : P.cellsOf e = size) (hsz : 0 < size)
    (hv : Value.okWide P w r b0 t v) (h : DataW.Trod enc P w 0 spare held t v d p) :
    ∃ (A : Option Addr) (n c : Nat) (xs : List Value), v = .slice A n c ∧ n ≤ c ∧ c ≤ maxLen ∧ Sl w w.heap.size size A n xs ∧
      ∀ i, i < n → ∃ (f : Nat) (y : DataW H × List MemPlace), DataW.trod enc P w 0 spare held f e ((xs.drop (i * size)).take size) = some y := by
  obtain ⟨A, n, c, rfl⟩ := okWide_slice ht hv
  obtain ⟨fuel, hf⟩ := h
  exact leaf_row ht hC hsz hf
/-- A slice of numbers. -/
theorem row_ints {e : TypeId} {k : IntKind} {n : Nat} {xs : List Value} (he : P.underlying e = some (.int k)) (hl : xs.length = n * 1)
    (h : ∀ i, i < n → ∃ (f : Nat) (y : DataW H × List MemPlace), DataW.trod enc P w 0 spare held f e ((xs.drop (i * 1)).take 1) = some y) :
    ∃ zs : List Int, xs = zs.map (Value.int k) ∧ ∀ z ∈ zs, (Lit.int k z).wf = true := by
  have hx : ∀ x ∈ xs, ∃ z, x = .int k z ∧ (Lit.int k z).wf = true := by
    intro x hx
    obtain ⟨i, hi, rfl⟩ := List.getElem_of_mem hx
    obtain ⟨f, y, hy⟩ := h i (by omega)
    have e1 : (xs.drop (i * 1)).take 1 = [xs[i]] := by
      rw [Nat.mul_one, List.drop_eq_getElem_cons hi]; rfl
    rw [e1] at hy
    exact leaf_int he hy
  clear h hl
  induction xs with
  | nil => exact ⟨[], rfl, by simp⟩
  | cons x xs ih =>
    obtain ⟨z, rfl, hz⟩ := hx x (by simp)
    obtain ⟨zs, rfl, hzs⟩ := ih (fun y hy => hx y (by simp [hy]))
    exact ⟨z :: zs, rfl, by intro y hy; rcases List.mem_cons.1 hy with rfl | hy; exact hz; exact hzs _ hy⟩
/-- A slice of structs of numbers. -/
theorem row_flats {e : TypeId} {n size : Nat} {fs : Array Field} {xs : List Value} (he : P.underlying e = some (.struct fs)) (hone : oneCellFields P fs = true) (hsz : fs.size = size) (h0 : 0 < size)
    (hint : ∀ f ∈ fs.toList, P.underlying f.type = some (.int .i64)) (hl : xs.length = n * size)
    (h : ∀ i, i < n → ∃ (f : Nat) (y : DataW H × List MemPlace), DataW.trod enc P w 0 spare held f e ((xs.drop (i * size)).take size) = some y) :
    ∃ zs : List Int, xs = zs.map (Value.int .i64) ∧ ∀ z ∈ zs, (Lit.int .i64 z).wf = true := by
  subst hsz
  have hx : ∀ x ∈ xs, ∃ z, x = .int .i64 z ∧ (Lit.int .i64 z).wf = true := by
    intro x hx
    obtain ⟨q, hq, rfl⟩ := List.getElem_of_mem hx
    have hdiv : q / fs.size < n := Nat.div_lt_of_lt_mul (by rw [Nat.mul_comm, ← hl]; exact hq)
    have hmod : q % fs.size < fs.size := Nat.mod_lt _ h0
    have hqe : q / fs.size * fs.size + q % fs.size = q := by rw [Nat.mul_comm]; exact Nat.div_add_mod _ _
    obtain ⟨fu, y, hy⟩ := h (q / fs.size) hdiv
    obtain ⟨ys, n', _, _, hlen, hyl, hf⟩ := DataW.trod_struct he hy
    have hfj : fs[q % fs.size]? = some (fs[q % fs.size]'hmod) := Array.getElem?_eq_getElem hmod
    obtain ⟨ho, hk⟩ := hone_of hone _ _ hfj
    have h1 := hf _ _ hfj
    rw [ho, hk] at h1
    have e1 : (((xs.drop (q / fs.size * fs.size)).take fs.size).drop (q % fs.size)).take 1 = [xs[q]] := by
      apply List.ext_getElem?
      intro j
      rcases j with _ | j
      · rw [List.getElem?_take, if_pos (by omega), List.getElem?_drop, List.getElem?_take, if_pos (by omega), List.getElem?_drop]
        rw [show q / fs.size * fs.size + (q % fs.size + 0) = q from by omega, List.getElem?_eq_getElem hq]
        rfl
      · rw [List.getElem?_take, if_neg (by omega)]; rfl
    rw [e1] at h1
    have hys : ys[q % fs.size]? = some (ys[q % fs.size]'(by omega)) := List.getElem?_eq_getElem (by omega)
    exact leaf_int (hint _ (by simp)) (h1.trans hys)
  clear h hl
  induction xs with
  | nil => exact ⟨[], rfl, by simp⟩
  | cons x xs ih =>
    obtain ⟨z, rfl, hz⟩ := hx x (by simp)
    obtain ⟨zs, rfl, hzs⟩ := ih (fun y hy => hx y (by simp [hy]))
    exact ⟨z :: zs, rfl, by intro y hy; rcases List.mem_cons.1 hy with rfl | hy; exact hz; exact hzs _ hy⟩
end
end Go.Proofs.Yteeplmnjipddaaa
