/- Players by their points, by the program: the closure and the library's stable sort. Conditions: at most 12 players. -/
import Derived.Test.YteeplmnjipddaaaSortF
import Derived.Test.YteeplmnjipddaaaOrd
import Derived.Deep.QuietTactic
namespace Go.Proofs.Yteeplmnjipddaaa
set_option linter.unusedSimpArgs false
set_option linter.unusedVariables false
open Go.Shelf Go.RowKit Go.Lib Go.Sort

noncomputable def siT : TypeInfo := (Try.prog.info? 24).get (by kernel_rfl)
noncomputable def siE : TypeInfo := (Try.prog.info? 2).get (by kernel_rfl)
theorem siK (n : Nat) (h2 : 2 ≤ n) : Lib.swapperK n siE 6 = 5 := by
  have a : siE.hasPointers = false := by kernel_rfl
  have b : siE.bytes = 8 := by kernel_rfl
  have c : (n == 0) = false := by simp; omega
  have d : (n == 1) = false := by simp; omega
  simp [Lib.swapperK, a, b, c, d]
/-- The places themselves. -/
def finA (n : Nat) : Array (Fin n) := Array.ofFn id
theorem finA_size (n : Nat) : (finA n).size = n := by simp [finA]
theorem finA_at {n : Nat} [Inhabited (Fin n)] {i : Nat} (h : i < n) : (finA n)[i]!.val = i := by
  rw [getElem!_pos _ i (by rw [finA_size]; exact h)]
  simp [finA]
theorem finA_list (n : Nat) : (finA n).toList.map (fun x => ((x.val : Nat) : Int)) = rangeL n := by
  apply List.ext_getElem
  · simp [finA, rangeL]
  · intro i h1 h2
    simp [finA, rangeL]
def encF {n : Nat} (x : Fin n) : Value := .int .i64 (x.val : Int)
def ltFF (F : Int → Int) {n : Nat} (x y : Fin n) : Bool := ltF F x.val y.val
def ltGF (F : Int → Int) {n : Nat} (x y : Fin n) : Bool := ltG F x.val y.val
theorem ltGF_swo (F : Int → Int) (n : Nat) : SWO (ltGF F (n := n)) := by
  have h := ltG_swo F
  exact ⟨fun x => h.irrefl _, fun x y z => h.trans _ _ _, fun x y z => h.ntrans _ _ _⟩
theorem ltFF_ap (F : Int → Int) {n : Nat} (x y : Fin n) (h : x.val < y.val) : ltFF F y x = ltGF F y x := ltF_ap F _ _ (by omega)
/-- A row of the places that is sorted by the whole order is the list of the reference. -/
theorem order_sort {n : Nat} [Inhabited (Fin n)] (F : Int → Int) (d' : Array (Fin n)) (hp : PermIn 0 n (finA n) d') (hs : SortedIn (ltGF F) 0 n d') : ∀ j, j < n → ((d'[j]!.val : Nat) : Int) = (ordL F n).getD j 0 := by
  have hsz : d'.size = n := by rw [hp.1, finA_size]
  have e : ∀ (x : Array (Fin n)), x.size = n → (x.extract 0 n).toList = x.toList := fun x hx => by
    rw [Array.toList_extract]; simp [← hx, List.extract]; exact List.take_of_length_le (by simp)
  have h1 : (d'.toList.map (fun x => ((x.val : Nat) : Int))).Perm (rangeL n) := by
    have h := hp.2.2
    rw [e _ hsz, e _ (finA_size n)] at h
    rw [← finA_list]
    exact h.map _
  have hat : ∀ j, j < n → (d'.toList.map (fun x => ((x.val : Nat) : Int))).getD j 0 = ((d'[j]!.val : Nat) : Int) := fun j hj => by
    rw [getElem!_pos _ j (by omega), List.getD_eq_getElem?_getD, List.getElem?_map]
    simp [hsz, hj]
  have h2 : PermIn 0 n (rangeL n).toArray (d'.toList.map (fun x => ((x.val : Nat) : Int))).toArray := permIn_list (rangeL_len n) h1
  have h3 : SortedIn (ltG F) 0 n (d'.toList.map (fun x => ((x.val : Nat) : Int))).toArray := fun i j h1 h2 h3 => by
    rw [arr_at, arr_at, hat i (by omega), hat j h3]
    exact hs i j h1 h2 h3
  have h4 := sorted_ord h2 h3
  intro j hj
  rw [← hat j hj]
  have h5 : d'.toList.map (fun x => ((x.val : Nat) : Int)) = ordL F n := by
    have := congrArg Array.toList h4
    simpa using this
  rw [h5]
theorem ins_fin (F : Int → Int) {n : Nat} [Inhabited (Fin n)] : ∀ j, j < n → (((insertionSort (ltFF F) (finA n) 0 n)[j]!.val : Nat) : Int) = (ordL F n).getD j 0 := by
  obtain ⟨p, s⟩ := ins_apart (lt := ltFF F (n := n)) (lt2 := ltGF F) (ap := fun x y => x.val < y.val) (fun x y h => ltFF_ap F x y h) (ltGF_swo F n) (a := 0) (b := n) (d := finA n) (Nat.zero_le _) (by rw [finA_size]; exact Nat.le_refl _) (fun x y _ h1 h2 => by rw [finA_at (by omega), finA_at h2]; exact h1)
  exact order_sort F _ p s
/-- A world behind a sort: the row holds other numbers, nothing else turns. -/
theorem sorted_grown {α : Type} [Inhabited α] (enc : α → Value) (w : World) (m blk off : Nat) (d' : Array α) (os : Array Obj) : w.grownBy (grow (putRow enc (Sort.ahead w m) blk off d') os) (some blk) := by
  refine ⟨rfl, rfl, rfl, by rw [size_grow, size_putRow]; show w.heap.size ≤ w.heap.size + _; omega, fun k hk hne => ?_⟩
  rw [heap_grow_old _ _ (by rw [size_putRow]; exact hk)]
  show (mapBlock _ _ _).heap[k]? = _
  unfold mapBlock
  rw [Array.getElem?_modify, if_neg (fun e => hne (by rw [e]))]
  rfl
theorem sorted_sl {n : Nat} [Inhabited (Fin n)] (w : World) (m blk off : Nat) (d0 d' : Array (Fin n)) (os : Array Obj) (hH : Holds encF w blk off d0) (hs : d'.size = d0.size) (h0 : d0.size = n) (hblk : blk < w.heap.size) (l : List Int) (hl : l.length = n) (hd : ∀ j, j < n → ((d'[j]!.val : Nat) : Int) = l.getD j 0) :
    Sl (grow (putRow encF (Sort.ahead w m) blk off d') os) w.heap.size 1 (some ⟨blk, off, none⟩) n (l.map (Value.int .i64)) := by
  refine ⟨by simp [hl], fun _ => ⟨blk, off, rfl, hblk, fun j u hu => ?_⟩⟩
  have hj : j < n := by
    rcases Nat.lt_or_ge j n with h | h
    · exact h
    · rw [List.getElem?_eq_none (by simp [hl]; omega)] at hu; cases hu
  rw [cell?_grow _ _ _ (by rw [size_putRow]; exact hblk), cell?_putRow encF _ blk off d0 d' (holds_ahead _ _ _ _ _ _ hH) hs j (by omega)]
  rw [List.getElem?_map, List.getElem?_eq_getElem (by omega)] at hu
  injection hu with hu
  rw [← hu, encF, hd j hj, List.getD_eq_getElem?_getD, List.getElem?_eq_getElem (by omega)]
  rfl
set_option maxHeartbeats 1500000 in
theorem less_pts (W : World) (Bp Bo bp op cp blk off c n i j x y : Nat) (px py : Int) (hP : W.cell? ⟨Bp, 0, none⟩ = some (.slice (some ⟨bp, op, none⟩) n cp)) (hO : W.cell? ⟨Bo, 0, none⟩ = some (.slice (some ⟨blk, off, none⟩) n c))
    (hi : i < n) (hj : j < n) (hx : x < n) (hy : y < n) (ci : W.cell? ⟨blk, off + i, none⟩ = some (.int .i64 x)) (cj : W.cell? ⟨blk, off + j, none⟩ = some (.int .i64 y)) (cx : W.cell? ⟨bp, op + x, none⟩ = some (.int .i64 px)) (cy : W.cell? ⟨bp, op + y, none⟩ = some (.int .i64 py)) (hn : n ≤ 1000000) :
    Calls Try.prog 41 #[.int .i64 i, .int .i64 j, .pointer (some ⟨Bp, 0, none⟩), .pointer (some ⟨Bo, 0, none⟩)] W fun e w' => e = .returned (.bool (decide (py < px))) ∧ ∃ q, w' = W.drewN q := by
  go_enter Try.func41, Try.ntmps41
  go_wp2
  first | (refine wp_region_quiet_lit (by kernel_rfl) (by kernel_rfl) ?_; refine WQ.of ?_; (repeat (refine WQ.step (fun K hK => ?_); go_simp; first | (refine hK _ ?_; clear hK K) | (apply Exists.intro; refine ⟨fun _ => ?_, hK _ ?_⟩; (fail); clear hK K))); refine WQ.nil ?_; intro _ hw'; obtain ⟨nq, hw''⟩ := hw'; subst hw'') | go_quiet (fail)
  go_wp2
  go_ret
  exact ⟨rfl, nq, rfl⟩
set_option maxHeartbeats 1500000 in
theorem reads_pts {n : Nat} [Inhabited (Fin n)] (w : World) (pts : List Int) (Bp Bo bp op cp blk off c : Nat) (hP : w.cell? ⟨Bp, 0, none⟩ = some (.slice (some ⟨bp, op, none⟩) n cp)) (hO : w.cell? ⟨Bo, 0, none⟩ = some (.slice (some ⟨blk, off, none⟩) n c))
    (hpts : ∀ x, x < n → w.cell? ⟨bp, op + x, none⟩ = some (.int .i64 (pts.getD x 0))) (hH : Holds encF w blk off (finA n)) (h1 : Bp ≠ blk) (h2 : Bo ≠ blk) (h3 : bp ≠ blk) (l1 : Bp < w.heap.size) (l2 : Bo < w.heap.size) (l3 : bp < w.heap.size) (l4 : blk < w.heap.size) (hn : n ≤ 1000000) :
    LessReads Try.prog 41 #[.pointer (some ⟨Bp, 0, none⟩), .pointer (some ⟨Bo, 0, none⟩)] (encF (n := n)) (ltFF (ptF pts) (n := n)) blk off n w := by
  intro m os dk hs i j hi hj
  have e : sortWorld encF w blk off m dk os = putRow encF (grow (Sort.ahead w m) os) blk off dk := by
    unfold sortWorld; rw [putRow_grow _ (Sort.ahead w m) _ blk off _ l4]
  have hHg : Holds encF (grow (Sort.ahead w m) os) blk off (finA n) := holds_grow _ _ _ blk off _ l4 (holds_ahead _ _ _ _ _ _ hH)
  have hc : ∀ b o, b < w.heap.size → b ≠ blk → (sortWorld encF w blk off m dk os).cell? ⟨b, o, none⟩ = w.cell? ⟨b, o, none⟩ := fun b o hb hne => by
    rw [e, cell?_putRow_other _ _ blk off dk _ (Or.inl hne), cell?_grow _ _ _ hb]
    rfl
  have hr : ∀ t, t < n → (sortWorld encF w blk off m dk os).cell? ⟨blk, off + t, none⟩ = some (.int .i64 ((dk[t]!.val : Nat) : Int)) := fun t ht => by
    rw [e]; exact cell?_putRow _ _ blk off _ dk hHg (by rw [hs, finA_size]) t (by omega)
  have hx : (dk[i]!).val < n := (dk[i]!).isLt
  have hy : (dk[j]!).val < n := (dk[j]!).isLt
  have h := less_pts (sortWorld encF w blk off m dk os) Bp Bo bp op cp blk off c n i j (dk[i]!).val (dk[j]!).val _ _ ((hc _ _ l1 h1).trans hP) ((hc _ _ l2 h2).trans hO) hi hj hx hy (hr i hi) (hr j hj) ((hc _ _ l3 h3).trans (hpts _ hx)) ((hc _ _ l3 h3).trans (hpts _ hy)) hn
  exact h
set_option maxHeartbeats 1500000 in
theorem sort_pts {n : Nat} (h2n : 2 ≤ n) (hn20 : n ≤ 20) (w : World) (pts : List Int) (Bp Bo bp op cp blk off c : Nat) (hP : w.cell? ⟨Bp, 0, none⟩ = some (.slice (some ⟨bp, op, none⟩) n cp)) (hO : w.cell? ⟨Bo, 0, none⟩ = some (.slice (some ⟨blk, off, none⟩) n c))
    (hpts : ∀ x, x < n → w.cell? ⟨bp, op + x, none⟩ = some (.int .i64 (pts.getD x 0))) (hrow : ∀ j, j < n → w.cell? ⟨blk, off + j, none⟩ = some (.int .i64 (j : Int)) ∧ w.frozen? ⟨blk, off + j, none⟩ = false) (h1 : Bp ≠ blk) (h2 : Bo ≠ blk) (h3 : bp ≠ blk) :
    Calls Try.prog 32 #[.iface 24 (.slice (some ⟨blk, off, none⟩) n c), .func (.func 41) #[] #[.pointer (some ⟨Bp, 0, none⟩), .pointer (some ⟨Bo, 0, none⟩)]] w fun e w' =>
      e = .returned (.tuple #[]) ∧ w.grownBy w' (some blk) ∧ Sl w' w.heap.size 1 (some ⟨blk, off, none⟩) n ((ordL (ptF pts) n).map (Value.int .i64)) := by
  haveI : Inhabited (Fin n) := ⟨⟨0, by omega⟩⟩
  have l4 := cell_lt (hrow 0 (by omega)).1
  have hH : Holds encF w blk off (finA n) := fun j hj => by
    rw [finA_size] at hj
    refine ⟨?_, (hrow j hj).2⟩
    rw [(hrow j hj).1, encF, finA_at hj]
  have hless := reads_pts w pts Bp Bo bp op cp blk off c hP hO hpts hH h1 h2 h3 (cell_lt hP) (cell_lt hO) (cell_lt (hpts 0 (by omega))) l4 (by omega)
  have hfs := finA_size n
  have hS := Any.sort_SliceStable_small Try.laysGt8 24 2 siT siE (by kernel_rfl) (by kernel_rfl) (by kernel_rfl) (by kernel_rfl) 6 (fun _ => by kernel_rfl) (by kernel_rfl) (fun _ => by kernel_rfl) (encF (n := n)) (fun _ => rfl) (ltFF (ptF pts) (n := n)) 41 _
    (enters_of Try.func41 (by kernel_rfl) rfl) blk off c (finA n) (by omega) (by omega) 77 (by rw [siK _ (by omega)]; kernel_rfl) true
    (fun args W => run_callFunc_extern Try.func77 (by kernel_rfl) (by kernel_rfl) (by kernel_rfl) (e := Extern.ReflectliteSwapper.swap true) (by kernel_rfl) args W) w (by rw [hfs]; exact hless) hH l4
  rw [hfs] at hS
  change Calls Try.prog 32 _ _ _ at hS
  refine hS.mono ?_
  rintro e w' ⟨rfl, m, os, rfl⟩
  refine ⟨rfl, sorted_grown _ _ _ _ _ _ _, ?_⟩
  exact sorted_sl w m blk off (finA n) _ os hH (by have := (ins_apart (lt := ltFF (ptF pts) (n := n)) (lt2 := ltGF (ptF pts)) (ap := fun x y => x.val < y.val) (fun x y h => ltFF_ap (ptF pts) x y h) (ltGF_swo (ptF pts) n) (a := 0) (b := n) (d := finA n) (Nat.zero_le _) (by rw [hfs]; exact Nat.le_refl _) (fun x y _ h1 h2 => by rw [finA_at (by omega), finA_at h2]; exact h1)).1.1; exact this) hfs l4 _ (ordL_len _ _) (ins_fin (ptF pts))
end Go.Proofs.Yteeplmnjipddaaa
