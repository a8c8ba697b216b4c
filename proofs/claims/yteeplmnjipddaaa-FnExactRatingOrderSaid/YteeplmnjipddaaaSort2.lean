/- Players by their ratings, by the program: the closure and the library's stable sort. Conditions: at most 100. -/
import Derived.Test.YteeplmnjipddaaaSym3
import Derived.Test.YteeplmnjipddaaaSort1
import Derived.Test.YteeplmnjipddaaaRo1
namespace Go.Proofs.Yteeplmnjipddaaa
set_option linter.unusedSimpArgs false
set_option linter.unusedVariables false
open Go.Shelf Go.RowKit Go.Lib Go.Sort

theorem below_growS (w : World) (os : Array Obj) : Below w.heap.size w (grow w os) := ⟨rfl, rfl, rfl, by rw [size_grow]; omega, fun k hk => heap_grow_old w os hk⟩
theorem putCells_list {n : Nat} [Inhabited (Fin n)] (d : Array (Fin n)) (hd : d.size = n) (l l0 : List Int) (hl : l.length = n) (h0 : l0.length = n) (hv : ∀ j, j < n → ((d[j]!.val : Nat) : Int) = l.getD j 0) (rest : List Value) : putCells encF 0 d ((l0.map (Value.int .i64) ++ rest).toArray) = ((l.map (Value.int .i64)) ++ rest).toArray := by
  apply Array.ext
  · simp [putCells, hl, h0]
  · intro i h1 h2
    simp only [putCells, Array.getElem_mapIdx, List.getElem_toArray]
    by_cases hi : i < n
    · rw [if_pos ⟨by omega, by omega⟩, List.getElem_append_left (by rw [List.length_map]; omega), List.getElem_map, Nat.sub_zero, encF, hv i hi, List.getD_eq_getElem?_getD, List.getElem?_eq_getElem (by omega)]
      rfl
    · rw [if_neg (by omega), List.getElem_append_right (by rw [List.length_map]; omega), List.getElem_append_right (by rw [List.length_map]; omega)]
      simp [hl, h0]
theorem blk_putRow {n : Nat} [Inhabited (Fin n)] {w : World} {g : Nat} {t : TypeId} {cs cs' : Array Value} (h : Blk w g t cs) (m : Nat) (d : Array (Fin n)) (os : Array Obj) (e : putCells encF 0 d cs = cs') : Blk (grow (putRow encF (Sort.ahead w m) g 0 d) os) g t cs' := by
  have hl := h.lt
  unfold Blk
  rw [heap_grow_old _ _ (by rw [size_putRow]; exact hl)]
  show (mapBlock _ _ _).heap[g]? = _
  unfold mapBlock
  rw [Array.getElem?_modify, if_pos rfl]
  show (w.heap[g]?).map _ = _
  rw [h, ← e]
  rfl
set_option maxHeartbeats 1500000 in
theorem less_rts (W : World) (Bp Bo bp op cp blk off c n i j x y : Nat) (px py : Int) (hP : W.cell? ⟨Bp, 0, none⟩ = some (.slice (some ⟨bp, op, none⟩) n cp)) (hO : W.cell? ⟨Bo, 0, none⟩ = some (.slice (some ⟨blk, off, none⟩) n c))
    (hi : i < n) (hj : j < n) (hx : x < n) (hy : y < n) (ci : W.cell? ⟨blk, off + i, none⟩ = some (.int .i64 x)) (cj : W.cell? ⟨blk, off + j, none⟩ = some (.int .i64 y)) (cx : W.cell? ⟨bp, op + x * 2, none⟩ = some (.int .i64 px)) (cy : W.cell? ⟨bp, op + y * 2, none⟩ = some (.int .i64 py)) (hn : n ≤ 1000000) :
    Calls Try.prog 33 #[.int .i64 i, .int .i64 j, .pointer (some ⟨Bp, 0, none⟩), .pointer (some ⟨Bo, 0, none⟩)] W fun e w' => e = .returned (.bool (decide (py < px))) ∧ ∃ q, w' = W.drewN q := by
  go_enter Try.func33, Try.ntmps33
  go_wp2
  first | (refine wp_region_quiet_lit (by kernel_rfl) (by kernel_rfl) ?_; refine WQ.of ?_; (repeat (refine WQ.step (fun K hK => ?_); go_simp; first | (refine hK _ ?_; clear hK K) | (apply Exists.intro; refine ⟨fun _ => ?_, hK _ ?_⟩; (fail); clear hK K))); refine WQ.nil ?_; intro _ hw'; obtain ⟨nq, hw''⟩ := hw'; subst hw'') | go_quiet (fail)
  go_wp2
  go_ret
  exact ⟨rfl, nq, rfl⟩
set_option maxHeartbeats 1500000 in
theorem reads_rts {n : Nat} [Inhabited (Fin n)] (w : World) (L : List Int) (Bp Bo bp op cp blk off c : Nat) (hP : w.cell? ⟨Bp, 0, none⟩ = some (.slice (some ⟨bp, op, none⟩) n cp)) (hO : w.cell? ⟨Bo, 0, none⟩ = some (.slice (some ⟨blk, off, none⟩) n c))
    (hpts : ∀ x, x < n → w.cell? ⟨bp, op + x * 2, none⟩ = some (.int .i64 (L.getD (x * 2) 0))) (hH : Holds encF w blk off (finA n)) (h1 : Bp ≠ blk) (h2 : Bo ≠ blk) (h3 : bp ≠ blk) (l1 : Bp < w.heap.size) (l2 : Bo < w.heap.size) (l3 : bp < w.heap.size) (l4 : blk < w.heap.size) (hn : n ≤ 1000000) :
    LessReads Try.prog 33 #[.pointer (some ⟨Bp, 0, none⟩), .pointer (some ⟨Bo, 0, none⟩)] (encF (n := n)) (ltFF (rtF L) (n := n)) blk off n w := by
  intro m os dk hs i j hi hj
  have e : sortWorld encF w blk off m dk os = putRow encF (grow (Sort.ahead w m) os) blk off dk := by
    unfold sortWorld; rw [putRow_grow _ (Sort.ahead w m) _ blk off _ l4]
  have hHg : Holds encF (grow (Sort.ahead w m) os) blk off (finA n) := holds_grow _ _ _ blk off _ l4 (holds_ahead _ _ _ _ _ _ hH)
  have hc : ∀ b o, b < w.heap.size → b ≠ blk → (sortWorld encF w blk off m dk os).cell? ⟨b, o, none⟩ = w.cell? ⟨b, o, none⟩ := fun b o hb hne => by
    rw [e, cell?_putRow_other _ _ blk off dk _ (Or.inl hne), cell?_grow _ _ _ hb]
    rfl
  have hr : ∀ t, t < n → (sortWorld encF w blk off m dk os).cell? ⟨blk, off + t, none⟩ = some (.int .i64 ((dk[t]!.val : Nat) : Int)) := fun t ht => by
    rw [e]; exact cell?_putRow _ _ blk off _ dk hHg (by rw [hs, finA_size]) t (by omega)
  have hx : (dk[i]!).val < n := (dk[i]!).isLt
  have hy : (dk[j]!).val < n := (dk[j]!).isLt
  have h := less_rts (sortWorld encF w blk off m dk os) Bp Bo bp op cp blk off c n i j (dk[i]!).val (dk[j]!).val _ _ ((hc _ _ l1 h1).trans hP) ((hc _ _ l2 h2).trans hO) hi hj hx hy (hr i hi) (hr j hj) ((hc _ _ l3 h3).trans (hpts _ hx)) ((hc _ _ l3 h3).trans (hpts _ hy)) hn
  exact h
/-- What the sort of the places leaves. -/
def RtQ (L : List Int) (n : Nat) (blk off : Nat) (w w' : World) : Prop := w.grownBy w' (some blk) ∧ Sl w' w.heap.size 1 (some ⟨blk, off, none⟩) n ((ordL (rtF L) n).map (Value.int .i64)) ∧ ∀ t (rest : List Value), off = 0 → Blk w blk t ((rangeL n).map (Value.int .i64) ++ rest).toArray → Blk w' blk t ((ordL (rtF L) n).map (Value.int .i64) ++ rest).toArray
set_option maxHeartbeats 1500000 in
theorem sort_rts {n : Nat} (h2n : 2 ≤ n) (hn100 : n ≤ 100) (w : World) (L : List Int) (Bp Bo bp op cp blk off c : Nat) (hP : w.cell? ⟨Bp, 0, none⟩ = some (.slice (some ⟨bp, op, none⟩) n cp)) (hO : w.cell? ⟨Bo, 0, none⟩ = some (.slice (some ⟨blk, off, none⟩) n c))
    (hpts : ∀ x, x < n → w.cell? ⟨bp, op + x * 2, none⟩ = some (.int .i64 (L.getD (x * 2) 0))) (hrow : ∀ j, j < n → w.cell? ⟨blk, off + j, none⟩ = some (.int .i64 (j : Int)) ∧ w.frozen? ⟨blk, off + j, none⟩ = false) (h1 : Bp ≠ blk) (h2 : Bo ≠ blk) (h3 : bp ≠ blk) :
    Calls Try.prog 32 #[.iface 24 (.slice (some ⟨blk, off, none⟩) n c), .func (.func 33) #[] #[.pointer (some ⟨Bp, 0, none⟩), .pointer (some ⟨Bo, 0, none⟩)]] w fun e w' =>
      e = .returned (.tuple #[]) ∧ RtQ L n blk off w w' := by
  haveI : Inhabited (Fin n) := ⟨⟨0, by omega⟩⟩
  have l4 := cell_lt (hrow 0 (by omega)).1
  have hH : Holds encF w blk off (finA n) := fun j hj => by
    rw [finA_size] at hj
    refine ⟨?_, (hrow j hj).2⟩
    rw [(hrow j hj).1, encF, finA_at hj]
  have hless := reads_rts w L Bp Bo bp op cp blk off c hP hO hpts hH h1 h2 h3 (cell_lt hP) (cell_lt hO) (cell_lt (hpts 0 (by omega))) l4 (by omega)
  have hfs := finA_size n
  have hB : sliceBound Try.prog 2 siE 6 (some ⟨blk, off, none⟩) n c = #[.slice (some ⟨blk, off, none⟩) n c, typeHandle Try.prog 2] := by
    unfold sliceBound; rw [if_neg (swapperK_gt _ _ _ h2n)]
  have hsw := swapSwaps_of_literal (P := Try.prog) true 77 (fun args W => run_callFunc_extern Try.func77 (by kernel_rfl) (by kernel_rfl) (by kernel_rfl) (e := Extern.ReflectliteSwapper.swap true) (by kernel_rfl) args W) 2 siE (by kernel_rfl) (by kernel_rfl) (fun _ => by kernel_rfl) (encF (n := n)) (fun _ => rfl) blk off n c
  have S : Srt Try.prog 33 #[.pointer (some ⟨Bp, 0, none⟩), .pointer (some ⟨Bo, 0, none⟩)] 77 (sliceBound Try.prog 2 siE 6 (some ⟨blk, off, none⟩) n c) (encF (n := n)) (ltFF (rtF L) (n := n)) blk off n w :=
    ⟨enters_of Try.func33 (by kernel_rfl) rfl, hless, by rw [hB]; exact hsw, l4, ⟨_, hH, hfs⟩, by omega⟩
  have hSW : SW encF w blk off (finA n) (stableWorld Try.prog Try.laysGt8_ren 24 (some ⟨blk, off, none⟩) n c w) := ((SW.start hH).alloc _).alloc _
  have hst := stable_any S (ltGF_swo (rtF L) n) (ap := fun x y => x.val < y.val) (fun x y h => ltFF_ap (rtF L) x y h) hn100 (finA n) _ hfs hSW (fun i j h1 h2 => by rw [finA_at (by omega), finA_at h2]; exact h1)
  have hS := Any.sort_SliceStable_of_stable Try.laysGt8 24 2 siT siE (by kernel_rfl) (by kernel_rfl) (by kernel_rfl) (by kernel_rfl) 6 (fun _ => by kernel_rfl) (some ⟨blk, off, none⟩) n c (by omega) 77 (by rw [siK _ h2n]; kernel_rfl) (.func 33) #[] #[.pointer (some ⟨Bp, 0, none⟩), .pointer (some ⟨Bo, 0, none⟩)] w (RtQ L n blk off w) (hst.mono (by
      rintro e w' ⟨rfl, -, d', ⟨m, os, rfl⟩, hd', hp, hso⟩
      exact ⟨rfl, sorted_grown _ _ _ _ _ _ _, sorted_sl w m blk off (finA n) d' os hH (by rw [hd', hfs]) hfs l4 _ (ordL_len _ _) (order_sort (rtF L) d' hp hso), fun t rest h0 hb => by
        subst h0
        exact blk_putRow hb m d' os (putCells_list d' hd' _ _ (ordL_len _ _) (rangeL_len n) (order_sort (rtF L) d' hp hso) rest)⟩))
  change Calls Try.prog 32 _ _ _ at hS
  exact hS
theorem sort_tiny {n : Nat} (h : n ≤ 1) (w : World) (p : Option Addr) (c : Nat) (lf : Fn) (la lb : Array Value) :
    Calls Try.prog 32 #[.iface 24 (.slice p n c), .func lf la lb] w fun e w' => e = .returned (.tuple #[]) ∧ Below w.heap.size w w' := by
  rcases (show n = 0 ∨ n = 1 by omega) with rfl | rfl
  · have hS := Any.sort_SliceStable_tiny Try.laysGt8 24 2 siT siE (by kernel_rfl) (by kernel_rfl) (by kernel_rfl) (by kernel_rfl) 6 (fun _ => by kernel_rfl) p 0 c (by omega) 73 (by kernel_rfl) lf la lb w
    change Calls Try.prog 32 _ _ _ at hS
    refine hS.mono ?_
    rintro e w' ⟨rfl, os, rfl⟩
    exact ⟨rfl, below_growS w os⟩
  · have hS := Any.sort_SliceStable_tiny Try.laysGt8 24 2 siT siE (by kernel_rfl) (by kernel_rfl) (by kernel_rfl) (by kernel_rfl) 6 (fun _ => by kernel_rfl) p 1 c (by omega) 74 (by kernel_rfl) lf la lb w
    change Calls Try.prog 32 _ _ _ at hS
    refine hS.mono ?_
    rintro e w' ⟨rfl, os, rfl⟩
    exact ⟨rfl, below_growS w os⟩
end Go.Proofs.Yteeplmnjipddaaa
