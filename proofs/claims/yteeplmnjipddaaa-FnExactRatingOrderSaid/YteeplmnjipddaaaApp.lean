/- Lists of the call's own as cells, and appends onto them from any slice. No conditions. -/
import Derived.Test.YteeplmnjipddaaaFlatV
import Derived.Maps.AppendAt
import Derived.Deep.AppendLies
import Derived.RegionTactic
import Derived.OwnWalk
import Derived.Laws.OwnMore
namespace Go.Proofs.Yteeplmnjipddaaa
set_option linter.unusedSimpArgs false
set_option linter.unusedVariables false
open Go.RowKit Go.WideShapes

/-- The slice owns the head of block g, which holds the cells vs there. -/
structure OwnV (w : World) (g : Nat) (t : TypeId) (m : Nat) (A : Option Addr) (n : Nat) (vs : List Value) : Prop where
  len : vs.length = n * m
  blk : 0 < n → A = some ⟨g, 0, none⟩ ∧ ∃ rest : List Value, Blk w g t (vs ++ rest).toArray
section
variable {w w' : World} {g : Nat} {t : TypeId} {m : Nat} {A : Option Addr} {n : Nat} {vs : List Value}
theorem OwnV.rest (h : OwnV w g t m A n vs) : ∃ rest : List Value, 0 < n → A = some ⟨g, 0, none⟩ ∧ Blk w g t (vs ++ rest).toArray := by
  rcases Nat.eq_zero_or_pos n with h0 | h0
  · exact ⟨[], fun h => absurd h (by omega)⟩
  · obtain ⟨e, rest, hb⟩ := h.blk h0
    exact ⟨rest, fun _ => ⟨e, hb⟩⟩
theorem OwnV.sl (h : OwnV w g t m A n vs) : Sl w w.heap.size m A n vs :=
  ⟨h.len, fun hn => by
    obtain ⟨e, rest, hb⟩ := h.blk hn
    refine ⟨g, 0, e, hb.lt, fun j u hu => ?_⟩
    rw [Nat.zero_add, hb.cell]
    have hj : j < vs.length := by
      rcases Nat.lt_or_ge j vs.length with h | h
      · exact h
      · rw [List.getElem?_eq_none h] at hu; cases hu
    rw [← hu]
    simp [List.getElem?_append, hj]⟩
theorem OwnV.later (h : OwnV w g t m A n vs) (hb : Below w.heap.size w w') : OwnV w' g t m A n vs :=
  ⟨h.len, fun hn => by
    obtain ⟨e, rest, hk⟩ := h.blk hn
    exact ⟨e, rest, hk.later hb⟩⟩
theorem OwnV.below {B : Nat} (h : OwnV w g t m A n vs) (hb : Below B w w') (hg : g < B) : OwnV w' g t m A n vs :=
  ⟨h.len, fun hn => by
    obtain ⟨e, rest, hk⟩ := h.blk hn
    exact ⟨e, rest, hk.below hb hg⟩⟩
theorem OwnV.apart {g' : Nat} (h : OwnV w g t m A n vs) (hg : w.grownBy w' (some g')) (hne : 0 < n → g ≠ g') : OwnV w' g t m A n vs :=
  ⟨h.len, fun hn => by
    obtain ⟨e, rest, hb⟩ := h.blk hn
    exact ⟨e, rest, (hg.block g hb.lt (by simpa using hne hn)).trans hb⟩⟩
theorem OwnV.lt (h : OwnV w g t m A n vs) (hn : 0 < n) : g < w.heap.size := by
  obtain ⟨_, _, hk⟩ := h.blk hn
  exact hk.lt
theorem OwnV.of_blk (h : Blk w g t vs.toArray) (hl : vs.length = n * m) : OwnV w g t m (some ⟨g, 0, none⟩) n vs := ⟨hl, fun _ => ⟨rfl, [], by simpa using h⟩⟩
theorem OwnV.none (w : World) (g : Nat) (t : TypeId) (m : Nat) (A : Option Addr) : OwnV w g t m A 0 [] := ⟨by simp, fun h => absurd h (by omega)⟩
theorem OwnV.own {zs : List Int} (h : OwnV w g t m A n (zs.map (Value.int .i64))) : Own w g t m A n zs := ⟨by simpa using h.len, h.blk⟩
theorem Own.ownV {zs : List Int} (h : Own w g t m A n zs) : OwnV w g t m A n (zs.map (Value.int .i64)) := ⟨by simpa using h.len, h.blk⟩
end
section
variable {w w' : World} {base : Nat} {e : TypeId} {size n : Nat} {v : Value} {xs : List Value}
theorem own_of_row (h : w.ownsRow base e size v n xs) : ∃ A g cap, v = .slice A n cap ∧ base ≤ g ∧ n ≤ cap ∧ cap ≤ maxLen ∧ OwnV w g e size A n xs := by
  rcases h.2 with ⟨rfl, rfl⟩ | ⟨g, cap, cur, rfl, hb, hg, hnc, hcm, hcs, ht⟩
  · exact ⟨none, base, 0, rfl, Nat.le_refl _, Nat.le_refl _, Nat.zero_le _, h.1, fun h => absurd h (by omega)⟩
  · refine ⟨_, g, cap, rfl, hb, hnc, hcm, h.1, fun _ => ⟨rfl, cur.toList.drop (n * size), ?_⟩⟩
    rw [← ht, List.take_append_drop]
    exact hg
theorem row_below (h : w.ownsRow base e size v n xs) (hb : Below w.heap.size w w') : w'.ownsRow base e size v n xs := by
  refine ⟨h.1, ?_⟩
  rcases h.2 with hn | ⟨g, cap, cur, rfl, hbb, hg, rest⟩
  · exact .inl hn
  · exact .inr ⟨g, cap, cur, rfl, hbb, (hb.block g (Array.getElem?_eq_some_iff.1 hg).1).trans hg, rest⟩
theorem row_set (h : w.ownsRow base e size v n xs) {p : Addr} (hne : ∀ k, v.ownBlock = some k → p.block ≠ k) (u : Value) : (w.setCell p u).ownsRow base e size v n xs := by
  refine ⟨h.1, ?_⟩
  rcases h.2 with hn | ⟨g, cap, cur, rfl, hbb, hg, rest⟩
  · exact .inl hn
  · exact .inr ⟨g, cap, cur, rfl, hbb, (Below.heap_setCell w p u g (fun e => hne g rfl e.symm)).trans hg, rest⟩
theorem row_sl {A : Option Addr} {c : Nat} (h : w.ownsRow base e size (.slice A n c) n xs) : Sl w w.heap.size size A n xs := by
  obtain ⟨A', g, cap, hv, _, _, _, ho⟩ := own_of_row h
  injection hv with h1
  subst h1
  exact ho.sl
/-- Behind an append. -/
theorem below_app {B : Nat} {a : World} (h : Below B a w) (ho : w.ownsRow base e size v n xs) (hg : w.grownBy w' v.ownBlock) (hbb : B ≤ base) (hB : B ≤ w.heap.size) : Below B a w' :=
  h.grown hg hB (fun k hk => Nat.le_trans hbb (ho.lt k hk).1)
end
theorem Sl.built {w : World} {cs : Array Value} {t : TypeId} {size n g B : Nat} (hg : g = w.heap.size) (hB : g < B) (h : cs.size = n * size) : Sl (w.alloc (.cells cs t)) B size (some ⟨g, 0, none⟩) n cs.toList := by
  subst hg
  exact ⟨by simpa using h, fun _ => ⟨_, 0, rfl, hB, fun j u hu => by
    rw [Nat.zero_add, (Blk.new w t cs).cell]
    simpa using hu⟩⟩
/-- The cells of a block whose first i cells are marked by mk. -/
def markV (mk : Nat → Value) (vs rest : List Value) (i : Nat) : Array Value := ((List.range i).map mk ++ vs.drop i ++ rest).toArray
def MarkRelV (w : World) (g : Nat) (t : TypeId) (A : Option Addr) (n : Nat) (vs rest : List Value) (mk : Nat → Value) (i : Nat) : Prop :=
  0 < n → A = some ⟨g, 0, none⟩ ∧ Blk w g t (markV mk vs rest i)
theorem markV_zero (mk : Nat → Value) (vs rest : List Value) : markV mk vs rest 0 = (vs ++ rest).toArray := by simp [markV]
theorem markV_all (mk : Nat → Value) (vs rest : List Value) : markV mk vs rest vs.length = ((List.range vs.length).map mk ++ rest).toArray := by simp [markV]
theorem markV_get (mk : Nat → Value) (vs rest : List Value) (i j : Nat) (hi : i ≤ j) (h : j < vs.length) : (markV mk vs rest i)[j]? = vs[j]? := by
  simp only [markV, List.getElem?_toArray]
  rw [List.getElem?_append_left (by simp; omega), List.getElem?_append_right (by simp; omega), List.getElem?_drop]
  congr 1
  simp
  omega
theorem markV_set (mk : Nat → Value) (vs rest : List Value) (i : Nat) (h : i < vs.length) (u : Value) (hu : u = mk i) : (markV mk vs rest i).setIfInBounds i u = markV mk vs rest (i + 1) := by
  subst hu
  simp only [markV, List.setIfInBounds_toArray]
  rw [List.set_append_left _ _ (by simp; omega), List.set_append_right _ _ (by simp), List.length_map, List.length_range, Nat.sub_self, List.drop_eq_getElem_cons h, List.set_cons_zero, List.range_succ, List.map_append, List.append_assoc, List.append_assoc, List.append_assoc]
  simp
theorem MarkRelV.own {w : World} {g : Nat} {t : TypeId} {A : Option Addr} {n m : Nat} {vs rest : List Value} {mk : Nat → Value} (h : MarkRelV w g t A n vs rest mk (n * m)) (hl : vs.length = n * m) : OwnV w g t m A n ((List.range (n * m)).map mk) :=
  ⟨by simp, fun hn => by
    obtain ⟨e, hb⟩ := h hn
    have := markV_all mk vs rest
    rw [hl] at this
    rw [this] at hb
    exact ⟨e, rest, hb⟩⟩
section
variable {P : Program} (w : World)
theorem run_append_gone (base : Nat) (t ty e : TypeId) (i : TypeInfo) (size : Nat) (ht : P.underlying t = some (.slice e)) (hi : P.info? e = some i)
    (v : Value) (n : Nat) (xs : List Value) (hown : w.ownsRow base e size v n xs) (c : Nat) : (Builtin.append_ #[t, t] ty #[v, .slice none 0 c]).run P w = .ok v w := by
  rcases hown.2 with ⟨rfl, rfl⟩ | ⟨g, cap, cur, rfl, _, _, hnc, _⟩
  · simp [Builtin.append_, run_underlying ht, sizeOf, typeInfo, hi, Builtin.lenOf, Builtin.firstCells]
  · simp [Builtin.append_, run_underlying ht, sizeOf, typeInfo, hi, Builtin.lenOf, Builtin.firstCells, hnc, storeCells]
theorem run_append_sl (base : Nat) (t ty e : TypeId) (i : TypeInfo) (z : Value) (size bytes : Nat) (ht : P.underlying t = some (.slice e)) (hi : P.info? e = some i) (hz : i.zero = some z)
    (hsize : i.size = size) (hby : i.bytes = bytes) (hzs : z.cells.size = size) (hsz : 0 < size)
    (v : Value) (n : Nat) (xs : List Value) (hown : w.ownsRow base e size v n xs)
    (B : Nat) (A : Option Addr) (m c : Nat) (news : List Value) (hr : Sl w B size A m news) (h1 : ∀ u ∈ news, u.oneCell' = true)
    (h63 : n + m ≤ maxLen) (hbytes : (n + m) * bytes ≤ 140737488355328) (hbase : base ≤ w.heap.size) :
    ∃ v' w', (Builtin.append_ #[t, t] ty #[v, .slice A m c]).run P w = .ok v' w' ∧ w'.ownsRow base e size v' (n + m) (xs ++ news) ∧ w.grownBy w' v.ownBlock ∧
      (v'.ownBlock = v.ownBlock ∨ v'.ownBlock = some w.heap.size) := by
  have none_ : m = 0 → news = [] := fun h0 => List.eq_nil_of_length_eq_zero (by have := hr.1; rw [h0] at this; simpa using this)
  rcases A with _ | ad
  · have hm : m = 0 := by
      rcases Nat.eq_zero_or_pos m with h0 | h0
      · exact h0
      · obtain ⟨b, off, h, _⟩ := hr.2 h0
        cases h
    have hn := none_ hm
    subst hm hn
    exact ⟨v, w, run_append_gone w base t ty e i size ht hi v n xs hown c, by simpa using hown, World.grownBy.refl w _, .inl rfl⟩
  · have hcells : ∀ j u, news[j]? = some u → w.cell? (ad.add j) = some u := by
      intro j u hu
      rcases Nat.eq_zero_or_pos m with h0 | h0
      · rw [none_ h0] at hu
        simp at hu
      · obtain ⟨b, off, h, _, hc⟩ := hr.2 h0
        injection h with h
        subst h
        rw [Go.WideShapes.add_plain]
        exact hc j u hu
    obtain ⟨v', w', hrun, h2, h3, _, h5⟩ := run_append_own_at (P := P) w base t ty e i z size bytes ht hi hz hsize hby hzs hsz v n xs hown ad m c news hr.1 hcells h1 h63 hbytes hbase
    exact ⟨v', w', hrun, h2, h3, h5⟩
theorem wp_append_sl {o : Oper} {a : Act} {K : Act → World → Prop} {Q : Exit → Act → World → Prop} (s x : Operand) (t : TypeId)
    (ho : o.op = .call { callee := .builtin .append, args := #[s, x], argTypes := #[t, t] })
    (base : Nat) (e : TypeId) (i : TypeInfo) (z : Value) (size bytes : Nat) (ht : P.underlying t = some (.slice e)) (hi : P.info? e = some i) (hz : i.zero = some z)
    (hsize : i.size = size) (hby : i.bytes = bytes) (hzs : z.cells.size = size) (hsz : 0 < size)
    (v : Value) (n : Nat) (xs : List Value) (hs : a.eval s = v) (hown : w.ownsRow base e size v n xs)
    (B : Nat) (A : Option Addr) (m c : Nat) (news : List Value) (hx : a.eval x = .slice A m c) (hr : Sl w B size A m news) (h1 : ∀ u ∈ news, u.oneCell' = true)
    (h63 : n + m ≤ maxLen) (hbytes : (n + m) * bytes ≤ 140737488355328) (hbase : base ≤ w.heap.size)
    (h : ∀ v' w', w'.ownsRow base e size v' (n + m) (xs ++ news) → w.grownBy w' v.ownBlock → (v'.ownBlock = v.ownBlock ∨ v'.ownBlock = some w.heap.size) → K (a.put o.dst v') w') : o.wp P a w K Q := by
  obtain ⟨v', w', hrun, h2, h3, h4⟩ := run_append_sl (P := P) w base t o.type e i z size bytes ht hi hz hsize hby hzs hsz v n xs hown B A m c news hr h1 h63 hbytes hbase
  unfold Oper.wp execOp
  simp only [ho, resolve, invoke, builtin, Sem.run_bind, Sem.run_pure, Result.andThen_ok, List.map_toArray, List.map_cons, List.map_nil, hs, hx, hrun]
  exact h v' w' h2 h3 h4
theorem wpList_append_sl {ops : Array Oper} {rest : List Oper} {o : Oper} {a : Act} {Q : Exit → Act → World → Prop} (hgd : o.guard = none) (s x : Operand) (t : TypeId)
    (ho : o.op = .call { callee := .builtin .append, args := #[s, x], argTypes := #[t, t] })
    (base : Nat) (e : TypeId) (i : TypeInfo) (z : Value) (size bytes : Nat) (ht : P.underlying t = some (.slice e)) (hi : P.info? e = some i) (hz : i.zero = some z)
    (hsize : i.size = size) (hby : i.bytes = bytes) (hzs : z.cells.size = size) (hsz : 0 < size)
    (v : Value) (n : Nat) (xs : List Value) (hs : a.eval s = v) (hown : w.ownsRow base e size v n xs)
    (B : Nat) (A : Option Addr) (m c : Nat) (news : List Value) (hx : a.eval x = .slice A m c) (hr : Sl w B size A m news) (h1 : ∀ u ∈ news, u.oneCell' = true)
    (h63 : n + m ≤ maxLen) (hbytes : (n + m) * bytes ≤ 140737488355328) (hbase : base ≤ w.heap.size)
    (h : ∀ v' w', w'.ownsRow base e size v' (n + m) (xs ++ news) → w.grownBy w' v.ownBlock → (v'.ownBlock = v.ownBlock ∨ v'.ownBlock = some w.heap.size) → wpList P ops Q rest (a.put o.dst v') w') : wpList P ops Q (o :: rest) a w :=
  wpList_plain hgd fun _ hK => wp_append_sl w s x t ho base e i z size bytes ht hi hz hsize hby hzs hsz v n xs hs hown B A m c news hx hr h1 h63 hbytes hbase fun v' w' h2 h3 h4 => hK _ _ (h v' w' h2 h3 h4)
theorem step_append_sl {ops : Array Oper} {o : Oper} {a : Act} {K : Act → World → Prop} {Q : Exit → Act → World → Prop} {E : Prop} (hgd : o.guard = none) (s x : Operand) (t : TypeId)
    (ho : o.op = .call { callee := .builtin .append, args := #[s, x], argTypes := #[t, t] })
    (base : Nat) (e : TypeId) (i : TypeInfo) (z : Value) (size bytes : Nat) (ht : P.underlying t = some (.slice e)) (hi : P.info? e = some i) (hz : i.zero = some z)
    (hsize : i.size = size) (hby : i.bytes = bytes) (hzs : z.cells.size = size) (hsz : 0 < size)
    (v : Value) (n : Nat) (xs : List Value) (hs : a.eval s = v) (hown : w.ownsRow base e size v n xs)
    (B : Nat) (A : Option Addr) (m c : Nat) (news : List Value) (hx : a.eval x = .slice A m c) (hr : Sl w B size A m news) (h1 : ∀ u ∈ news, u.oneCell' = true)
    (h63 : n + m ≤ maxLen) (hbytes : (n + m) * bytes ≤ 140737488355328) (hbase : base ≤ w.heap.size)
    (h : ∀ v' w', w'.ownsRow base e size v' (n + m) (xs ++ news) → w.grownBy w' v.ownBlock → (v'.ownBlock = v.ownBlock ∨ v'.ownBlock = some w.heap.size) → K (a.put o.dst v') w') :
    if Region.wanted o (yielded ops a.tmps) = true then Oper.wp P o a w K Q else E := by
  have hw : Region.wanted o (yielded ops a.tmps) = true := by simp [Region.wanted, hgd]
  rw [if_pos hw]
  exact wp_append_sl w s x t ho base e i z size bytes ht hi hz hsize hby hzs hsz v n xs hs hown B A m c news hx hr h1 h63 hbytes hbase h
end
end Go.Proofs.Yteeplmnjipddaaa
