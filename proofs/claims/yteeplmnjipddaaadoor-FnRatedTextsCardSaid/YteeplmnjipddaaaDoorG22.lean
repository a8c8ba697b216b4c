/- Draws of ratings for expectations. Conditions: at most 2^20 bytes. -/
import Derived.Test.YteeplmnjipddaaaDoorG21
import Derived.Test.YteeplmnjipddaaaDoorG17
import Derived.Test.YteeplmnjipddaaaDoorG03
import Derived.Test.YteeplmnjipddaaaDoorG09
import Derived.Test.YteeplmnjipddaaaDoorG06
/- Players by their ratings, by the program: the closure and the library's stable sort. Conditions: at most 100. -/
namespace Go.Proofs.YteeplmnjipddaaaDoor
set_option linter.unusedSimpArgs false
set_option linter.unusedVariables false
open Go.Shelf Go.RowKit Go.Lib Go.Sort

theorem below_growS (w : World) (os : Array Obj) : Below w.heap.size w (grow w os) := ⟨rfl, rfl, rfl, by rw [Go.Sort.size_grow]; omega, fun k hk => Go.Sort.heap_grow_old w os hk⟩
theorem putCells_list {n : Nat} [Inhabited (Fin n)] (d : Array (Fin n)) (hd : d.size = n) (l l0 : List Int) (hl : l.length = n) (h0 : l0.length = n) (hv : ∀ j, j < n → ((d[j]!.val : Nat) : Int) = l.getD j 0) (rest : List Value) : putCells encF 0 d ((l0.map (Value.int .i64) ++ rest).toArray) = ((l.map (Value.int .i64)) ++ rest).toArray := by
  apply Array.ext
  · simp [putCells, hl, h0]
  · intro i h1 h2
    simp only [putCells, Array.getElem_mapIdx, List.getElem_toArray]
    by_cases hi : i < n
    · rw [if_pos ⟨by omega, by omega⟩, List.getElem_append_left (by rw [List.length_map]; omega), List.getElem_map, Nat.sub_zero, encF, hv i hi, List.getD_eq_getElem?_getD, List.getElem?_eq_getElem (by omega)]
      rfl
    · rw [if_neg (by omega), List.getElem_append_right (by rw [List.length_map]; omega), List.getElem_append_right (by rw [List.length_map]; omega)]
      simp [hl, h0]
theorem blk_putRow {n : Nat} [Inhabited (Fin n)] {w : World} {g : Nat} {t : TypeId} {cs cs' : Array Value} (h : Blk w g t cs) (m : Nat) (d : Array (Fin n)) (os : Array Obj) (e : putCells encF 0 d cs = cs') : Blk (grow (putRow encF (Sort.ahead w m) g 0 d) os) g t cs' := by
  have hl := h.lt
  unfold Blk
  rw [Go.Sort.heap_grow_old _ _ (by rw [size_putRow]; exact hl)]
  show (mapBlock _ _ _).heap[g]? = _
  unfold mapBlock
  rw [Array.getElem?_modify, if_pos rfl]
  show (w.heap[g]?).map _ = _
  rw [h, ← e]
  rfl
set_option maxHeartbeats 1500000 in
theorem less_rts (W : World) (Bp Bo bp op cp blk off c n i j x y : Nat) (px py : Int) (hP : W.cell? ⟨Bp, 0, none⟩ = some (.slice (some ⟨bp, op, none⟩) n cp)) (hO : W.cell? ⟨Bo, 0, none⟩ = some (.slice (some ⟨blk, off, none⟩) n c))
    (hi : i < n) (hj : j < n) (hx : x < n) (hy : y < n) (ci : W.cell? ⟨blk, off + i, none⟩ = some (.int .i64 x)) (cj : W.cell? ⟨blk, off + j, none⟩ = some (.int .i64 y)) (cx : W.cell? ⟨bp, op + x * 2, none⟩ = some (.int .i64 px)) (cy : W.cell? ⟨bp, op + y * 2, none⟩ = some (.int .i64 py)) (hn : n ≤ 1000000) :
    Calls Tryd.prog 30 #[.int .i64 i, .int .i64 j, .pointer (some ⟨Bp, 0, none⟩), .pointer (some ⟨Bo, 0, none⟩)] W fun e w' => e = .returned (.bool (decide (py < px))) ∧ ∃ q, w' = W.drewN q := by
  go_enter Tryd.func30, Tryd.ntmps30
  go_wp2
  first | (refine wp_region_quiet_lit (by kernel_rfl) (by kernel_rfl) ?_; refine WQ.of ?_; (repeat (refine WQ.step (fun K hK => ?_); go_simp; first | (refine hK _ ?_; clear hK K) | (apply Exists.intro; refine ⟨fun _ => ?_, hK _ ?_⟩; (fail); clear hK K))); refine WQ.nil ?_; intro _ hw'; obtain ⟨nq, hw''⟩ := hw'; subst hw'') | go_quiet (fail)
  go_wp2
  go_ret
  exact ⟨rfl, nq, rfl⟩
set_option maxHeartbeats 1500000 in
theorem reads_rts {n : Nat} [Inhabited (Fin n)] (w : World) (L : List Int) (Bp Bo bp op cp blk off c : Nat) (hP : w.cell? ⟨Bp, 0, none⟩ = some (.slice (some ⟨bp, op, none⟩) n cp)) (hO : w.cell? ⟨Bo, 0, none⟩ = some (.slice (some ⟨blk, off, none⟩) n c))
    (hpts : ∀ x, x < n → w.cell? ⟨bp, op + x * 2, none⟩ = some (.int .i64 (L.getD (x * 2) 0))) (hH : Holds encF w blk off (finA n)) (h1 : Bp ≠ blk) (h2 : Bo ≠ blk) (h3 : bp ≠ blk) (l1 : Bp < w.heap.size) (l2 : Bo < w.heap.size) (l3 : bp < w.heap.size) (l4 : blk < w.heap.size) (hn : n ≤ 1000000) :
    LessReads Tryd.prog 30 #[.pointer (some ⟨Bp, 0, none⟩), .pointer (some ⟨Bo, 0, none⟩)] (encF (n := n)) (ltFF (rtF L) (n := n)) blk off n w := by
  intro m os dk hs i j hi hj
  have e : sortWorld encF w blk off m dk os = putRow encF (grow (Sort.ahead w m) os) blk off dk := by
    unfold sortWorld; rw [putRow_grow _ (Sort.ahead w m) _ blk off _ l4]
  have hHg : Holds encF (grow (Sort.ahead w m) os) blk off (finA n) := holds_grow _ _ _ blk off _ l4 (holds_ahead _ _ _ _ _ _ hH)
  have hc : ∀ b o, b < w.heap.size → b ≠ blk → (sortWorld encF w blk off m dk os).cell? ⟨b, o, none⟩ = w.cell? ⟨b, o, none⟩ := fun b o hb hne => by
    rw [e, cell?_putRow_other _ _ blk off dk _ (Or.inl hne), cell?_grow _ _ _ hb]
    rfl
  have hr : ∀ t, t < n → (sortWorld encF w blk off m dk os).cell? ⟨blk, off + t, none⟩ = some (.int .i64 ((dk[t]!.val : Nat) : Int)) := fun t ht => by
    rw [e]; exact cell?_putRow _ _ blk off _ dk hHg (by rw [hs, finA_size]) t (by omega)
  have hx : (dk[i]!).val < n := (dk[i]!).isLt
  have hy : (dk[j]!).val < n := (dk[j]!).isLt
  have h := less_rts (sortWorld encF w blk off m dk os) Bp Bo bp op cp blk off c n i j (dk[i]!).val (dk[j]!).val _ _ ((hc _ _ l1 h1).trans hP) ((hc _ _ l2 h2).trans hO) hi hj hx hy (hr i hi) (hr j hj) ((hc _ _ l3 h3).trans (hpts _ hx)) ((hc _ _ l3 h3).trans (hpts _ hy)) hn
  exact h
/-- What the sort of the places leaves. -/
def RtQ (L : List Int) (n : Nat) (blk off : Nat) (w w' : World) : Prop := w.grownBy w' (some blk) ∧ Sl w' w.heap.size 1 (some ⟨blk, off, none⟩) n ((ordL (rtF L) n).map (Value.int .i64)) ∧ ∀ t (rest : List Value), off = 0 → Blk w blk t ((rangeL n).map (Value.int .i64) ++ rest).toArray → Blk w' blk t ((ordL (rtF L) n).map (Value.int .i64) ++ rest).toArray
set_option maxHeartbeats 1500000 in
theorem sort_rts {n : Nat} (h2n : 2 ≤ n) (hn100 : n ≤ 100) (w : World) (L : List Int) (Bp Bo bp op cp blk off c : Nat) (hP : w.cell? ⟨Bp, 0, none⟩ = some (.slice (some ⟨bp, op, none⟩) n cp)) (hO : w.cell? ⟨Bo, 0, none⟩ = some (.slice (some ⟨blk, off, none⟩) n c))
    (hpts : ∀ x, x < n → w.cell? ⟨bp, op + x * 2, none⟩ = some (.int .i64 (L.getD (x * 2) 0))) (hrow : ∀ j, j < n → w.cell? ⟨blk, off + j, none⟩ = some (.int .i64 (j : Int)) ∧ w.frozen? ⟨blk, off + j, none⟩ = false) (h1 : Bp ≠ blk) (h2 : Bo ≠ blk) (h3 : bp ≠ blk) :
    Calls Tryd.prog 29 #[.iface 33 (.slice (some ⟨blk, off, none⟩) n c), .func (.func 30) #[] #[.pointer (some ⟨Bp, 0, none⟩), .pointer (some ⟨Bo, 0, none⟩)]] w fun e w' =>
      e = .returned (.tuple #[]) ∧ RtQ L n blk off w w' := by
  haveI : Inhabited (Fin n) := ⟨⟨0, by omega⟩⟩
  have l4 := cell_lt (hrow 0 (by omega)).1
  have hH : Holds encF w blk off (finA n) := fun j hj => by
    rw [finA_size] at hj
    refine ⟨?_, (hrow j hj).2⟩
    rw [(hrow j hj).1, encF, finA_at hj]
  have hless := reads_rts w L Bp Bo bp op cp blk off c hP hO hpts hH h1 h2 h3 (cell_lt hP) (cell_lt hO) (cell_lt (hpts 0 (by omega))) l4 (by omega)
  have hfs := finA_size n
  have hB : sliceBound Tryd.prog 2 siE 6 (some ⟨blk, off, none⟩) n c = #[.slice (some ⟨blk, off, none⟩) n c, typeHandle Tryd.prog 2] := by
    unfold sliceBound; rw [if_neg (swapperK_gt _ _ _ h2n)]
  have hsw := swapSwaps_of_literal (P := Tryd.prog) true 55 (fun args W => run_callFunc_extern Tryd.func55 (by kernel_rfl) (by kernel_rfl) (by kernel_rfl) (e := Extern.ReflectliteSwapper.swap true) (by kernel_rfl) args W) 2 siE (by kernel_rfl) (by kernel_rfl) (fun _ => by kernel_rfl) (encF (n := n)) (fun _ => rfl) blk off n c
  have S : Srt Tryd.prog 30 #[.pointer (some ⟨Bp, 0, none⟩), .pointer (some ⟨Bo, 0, none⟩)] 55 (sliceBound Tryd.prog 2 siE 6 (some ⟨blk, off, none⟩) n c) (encF (n := n)) (ltFF (rtF L) (n := n)) blk off n w :=
    ⟨enters_of Tryd.func30 (by kernel_rfl) rfl, hless, by rw [hB]; exact hsw, l4, ⟨_, hH, hfs⟩, by omega⟩
  have hSW : SW encF w blk off (finA n) (stableWorld Tryd.prog Tryd.laysGt8_ren 33 (some ⟨blk, off, none⟩) n c w) := ((SW.start hH).alloc _).alloc _
  have hst := stable_any S (ltGF_swo (rtF L) n) (ap := fun x y => x.val < y.val) (fun x y h => ltFF_ap (rtF L) x y h) hn100 (finA n) _ hfs hSW (fun i j h1 h2 => by rw [finA_at (by omega), finA_at h2]; exact h1)
  have hS := Any.sort_SliceStable_of_stable Tryd.laysGt8 33 2 siT siE (by kernel_rfl) (by kernel_rfl) (by kernel_rfl) (by kernel_rfl) 6 (fun _ => by kernel_rfl) (some ⟨blk, off, none⟩) n c (by omega) 55 (by rw [siK _ h2n]; kernel_rfl) (.func 30) #[] #[.pointer (some ⟨Bp, 0, none⟩), .pointer (some ⟨Bo, 0, none⟩)] w (RtQ L n blk off w) (hst.mono (by
      rintro e w' ⟨rfl, -, d', ⟨m, os, rfl⟩, hd', hp, hso⟩
      exact ⟨rfl, sorted_grown _ _ _ _ _ _ _, sorted_sl w m blk off (finA n) d' os hH (by rw [hd', hfs]) hfs l4 _ (ordL_len _ _) (order_sort (rtF L) d' hp hso), fun t rest h0 hb => by
        subst h0
        exact blk_putRow hb m d' os (putCells_list d' hd' _ _ (ordL_len _ _) (rangeL_len n) (order_sort (rtF L) d' hp hso) rest)⟩))
  change Calls Tryd.prog 29 _ _ _ at hS
  exact hS
theorem sort_tiny {n : Nat} (h : n ≤ 1) (w : World) (p : Option Addr) (c : Nat) (lf : Fn) (la lb : Array Value) :
    Calls Tryd.prog 29 #[.iface 33 (.slice p n c), .func lf la lb] w fun e w' => e = .returned (.tuple #[]) ∧ Below w.heap.size w w' := by
  rcases (show n = 0 ∨ n = 1 by omega) with rfl | rfl
  · have hS := Any.sort_SliceStable_tiny Tryd.laysGt8 33 2 siT siE (by kernel_rfl) (by kernel_rfl) (by kernel_rfl) (by kernel_rfl) 6 (fun _ => by kernel_rfl) p 0 c (by omega) 51 (by kernel_rfl) lf la lb w
    change Calls Tryd.prog 29 _ _ _ at hS
    refine hS.mono ?_
    rintro e w' ⟨rfl, os, rfl⟩
    exact ⟨rfl, below_growS w os⟩
  · have hS := Any.sort_SliceStable_tiny Tryd.laysGt8 33 2 siT siE (by kernel_rfl) (by kernel_rfl) (by kernel_rfl) (by kernel_rfl) 6 (fun _ => by kernel_rfl) p 1 c (by omega) 52 (by kernel_rfl) lf la lb w
    change Calls Tryd.prog 29 _ _ _ at hS
    refine hS.mono ?_
    rintro e w' ⟨rfl, os, rfl⟩
    exact ⟨rfl, below_growS w os⟩
end Go.Proofs.YteeplmnjipddaaaDoor
/- RatingOrder: the program. Conditions: lengths below 2^63. -/
namespace Go.Proofs.YteeplmnjipddaaaDoor
set_option linter.unusedSimpArgs false
set_option linter.unusedVariables false
open Go.RowKit Go.WideShapes

theorem blk_farR {w w' : World} {g : Nat} {t : TypeId} {cs : Array Value} {row : Option Nat} (h : Blk w g t cs) (hg : w.grownBy w' row) (hne : some g ≠ row) : Blk w' g t cs := (hg.block g h.lt hne).trans h
theorem arr_getR {l : List Int} {rest : List Value} {j : Nat} (h : j < l.length) : ((l.map (Value.int .i64) ++ rest).toArray)[j]? = some (.int .i64 (l.getD j 0)) := by
  rw [List.getElem?_toArray, List.getElem?_append_left (by rw [List.length_map]; exact h), List.getElem?_map, List.getD_eq_getElem?_getD, List.getElem?_eq_getElem h]; rfl
theorem areRated_lit (A1 : Option Addr) (n c1 : Nat) (L : List Int) (w : World) (hL : Sl w w.heap.size 2 A1 n (L.map (Value.int .i64))) (hn : n ≤ 9223372036854775807) (b : Bool) (h : okL L n = b) :
    Calls Tryd.prog 28 #[.slice A1 n c1] w fun e w' => e = .returned (.bool b) ∧ Below w.heap.size w w' := by
  have h1 := areRated_any A1 n c1 L w hL hn
  rw [h] at h1
  exact h1
set_option maxRecDepth 10000 in
set_option maxHeartbeats 2000000 in
theorem RatingOrder_0 (A : Option Addr) (n c : Nat) (L : List Int) (w : World) (hs : Sl w w.heap.size 2 A n (L.map (Value.int .i64))) (hn : n ≤ 100) (hok : okL L n = true) :
    Calls Tryd.prog 11 #[.slice A n c] w (RoPost Tryd.prog (ordL (rtF L) n) n 0 w) := by
  have HS := Lib.hid hs
  have HSa := Lib.hid (hs.later (Below.alloc (Below.refl _ _) (Nat.le_refl _) (.cells #[.slice A n c] 31)))
  obtain ⟨i0, ti, tz0, tz1, tz2⟩ := info_parts info_i64w
  have HI := Lib.hid (And.intro ti (And.intro tz0 (And.intro tz1 tz2)))
  have HOK := Lib.hid hok
  clear hs hok ti tz0 tz1 tz2
  go_enter Tryd.func11, Tryd.ntmps11
  go_wp2_with (go_at_call 28; (with_reducible refine Calls.mono (areRated_lit A n c L _ HSa.out (by omega) true HOK.out) ?_); rintro e w1 ⟨rfl, hb1⟩; have HBP := Lib.hid ((Blk.new w 31 #[.slice A n c]).later hb1); have hcb := HBP.out.cell 0; have hpl := HBP.out.lt; simp only [List.getElem?_toArray, List.getElem?_cons_zero] at hcb)
  have B1 : Hid (Below w.heap.size w w1) := (Below.alloc (Below.refl _ _) (Nat.le_refl _) _).trans (hb1.mono (sizeAlloc _ _))
  have hz1' := B1.out.size
  have hp1 := HBP.out.lt
  have HBo : Hid (Blk ((w1.alloc (.cells #[] 2)).alloc (.cells #[.slice (some ⟨w1.heap.size, 0, none⟩) 0 0] 33)) (w1.heap.size + 1) 33 #[.slice (some ⟨w1.heap.size, 0, none⟩) 0 0]) := Blk.new' (by simp)
  clear hb1 hcb
  go_loopw [15] (fun i wr => ∃ (j : Nat) (v : Value), j ≤ n ∧ i = .int .i64 j ∧ Blk wr (w1.heap.size + 1) 33 #[v] ∧ wr.ownsRow w1.heap.size 2 1 v j ((rangeL j).map (Value.int .i64)) ∧ v.ownBlock ≠ some (w1.heap.size + 1) ∧ Below w1.heap.size w1 wr) (fun i _ => n - (intOf i).toNat)
  case atStart => exact ⟨0, _, Nat.zero_le _, rfl, HBo.out, row_below (World.ownsRow_made _ _ 0 (Nat.le_refl _) (Nat.zero_le _) rfl) (Below.alloc (Below.refl _ _) (Nat.le_refl _) _), by intro e; injection e with e; exact absurd e (by show ¬ w1.heap.size = w1.heap.size + 1; omega), by (repeat' (first | (with_reducible exact Below.refl _ _) | (with_reducible assumption) | (with_reducible refine Below.alloc ?_ ?_ _) | (with_reducible refine Below.drew ?_) | (with_reducible refine belowDrewN ?_ _) | (with_reducible refine Below.setCell ?_ ?_ _) | (with_reducible refine Below.via (by with_reducible assumption) ?_ ?_) | (with_reducible refine Below.viaD (by with_reducible assumption) ?_ ?_) | (with_reducible exact Below.size (by with_reducible assumption)) | go_size | (with_reducible refine Nat.le_trans ?_ (Below.size (by with_reducible assumption))) | (with_reducible refine Nat.le_trans ?_ (sizeAlloc _ _)) | (with_reducible refine Nat.le_trans ?_ (sizeSet _ _ _)) | (with_reducible refine Nat.le_trans ?_ (sizeDrew _))))⟩
  case round =>
    obtain ⟨j, v, hj, rfl, hbo, hown, hno, hbl⟩ := hrel
    rename World => wo
    have HBOX := Lib.hid hbo
    have HOW := Lib.hid hown
    have HNO := Lib.hid hno
    have HBL := Lib.hid hbl
    have hzo := hbl.size
    have hbc : wo.cell? ⟨w1.heap.size + 1, 0, none⟩ = some v := hbo.cell 0
    have hlo := hbo.lt
    clear hbo hown hno hbl
    by_cases hlt : j < n
    · have HA1 : Hid ((wo.alloc (.cells #[.int .i64 j] 2)).ownsRow w1.heap.size 2 1 v j ((rangeL j).map (Value.int .i64))) := row_below HOW.out (Below.alloc (Below.refl _ _) (Nat.le_refl _) _)
      have B4 := Lib.hid (Below.alloc HBL.out hzo (.cells #[.int .i64 j] 2))
      have hz4 := B4.out.size
      have HX4 := Lib.hid (HBOX.out.later (Below.alloc (Below.refl _ _) (Nat.le_refl _) (.cells #[.int .i64 j] 2)))
      go_wp2_with (at_builtin; refine wpList_append_sl _ rfl _ _ 33 rfl w1.heap.size 2 i0 _ 1 8 Tryd.underlying33 HI.out.1 HI.out.2.1 HI.out.2.2.1 HI.out.2.2.2 rfl (by decide) v j ((rangeL j).map (Value.int .i64)) rfl HA1.out (wo.heap.size + 1) _ 1 1 [.int .i64 j] rfl (Sl.built rfl (Nat.lt_succ_self _) rfl) ?c1 ?c2 ?c3 ?c4 ?_)
      case c1 => intro u hu; simp at hu; subst hu; rfl
      case c2 => unfold maxLen; omega
      case c3 => omega
      case c4 => exact hz4
      intro v2 w2 hown2 hg2 hor2
      have B5 := Lib.hid (below_app B4.out HA1.out hg2 (Nat.le_refl _) hz4)
      have HO2 := Lib.hid hown2
      have HX2 := Lib.hid (blk_farR HX4.out hg2 (fun e => HNO.out e.symm))
      have HN2 : Hid (v2.ownBlock ≠ some (w1.heap.size + 1)) := by
        intro e
        rcases hor2 with h | h
        · exact HNO.out (h ▸ e)
        · rw [h] at e
          injection e with e
          simp at e
          omega
      have hc2' : w2.cell? ⟨w1.heap.size + 1, 0, none⟩ = some v := HX2.out.cell 0
      have hf2' := HX2.out.free 0
      obtain ⟨A7, g7, cap7, rfl, _, _, _, _⟩ := own_of_row hown2
      clear hown2 hg2 hor2
      go_wp2_with fail
      go_roundw
      case rel =>
        have h := HO2.out
        refine ⟨j + 1, .slice A7 (j + 1) cap7, by omega, by go_num, HX2.out.set 0 (.slice A7 (j + 1) cap7), ?_, HN2.out, Below.setCell B5.out (by simp) _⟩
        rw [rangeL_succ, List.map_append]
        exact row_set h (fun k e => by intro e2; rw [← e2] at e; exact HN2.out e) _
      case measure => first | (simp [intOf]; done) | (simp [intOf]; omega)
    · obtain rfl : j = n := by omega
      obtain ⟨A2, g, cap, rfl, hg, hncap, hmcap, ho⟩ := own_of_row HOW.out
      have HOV := Lib.hid ho
      have hgo : g ≠ w1.heap.size + 1 ∨ j = 0 := by
        rcases Nat.eq_zero_or_pos j with h | h
        · exact Or.inr h
        · left
          obtain ⟨rfl, -⟩ := ho.blk h
          exact fun e => HNO.out (by rw [← e]; rfl)
      have HGO := Lib.hid hgo
      have B2 := Lib.hid (Below.via HBL.out B1.out hz1')
      clear ho hgo
      by_cases h2 : 2 ≤ j
      case neg =>
        have HLT := Lib.hid (show j ≤ 1 by omega)
        clear h2
        go_wp2_with fail
        refine (sort_tiny HLT.out wo A2 cap _ _ _).mono ?_
        rintro e w5 ⟨rfl, hb5⟩
        have HX5 := Lib.hid (HBOX.out.later hb5)
        have hx5 : w5.cell? ⟨w1.heap.size + 1, 0, none⟩ = some (.slice A2 j cap) := HX5.out.cell 0
        have hl5 := HX5.out.lt
        have HO5 := Lib.hid (HOV.out.later hb5)
        have HB5 := Lib.hid hb5
        clear hb5 hbc
        go_wp2_with fail
        go_ret2
        refine ⟨A2, g, cap, rfl, by omega, ?_, Below.via HB5.out B2.out B2.out.size⟩
        have e : ordL (rtF L) j = rangeL j := by
          rcases (show j = 0 ∨ j = 1 by have := HLT.out; omega) with rfl | rfl
          · rfl
          · rfl
        rw [e]
        exact HO5.out
      case pos =>
        obtain ⟨rfl, rest2, hbk⟩ := HOV.out.blk (show 0 < j by omega)
        have HBK := Lib.hid hbk
        obtain ⟨bp, op, p0, p1, hA1, hbp, -, -, -, -⟩ := (HS.out).duo (show 0 < j by omega)
        subst hA1
        have HPT : Hid (∀ x, x < j → wo.cell? ⟨bp, op + x * 2, none⟩ = some (.int .i64 (L.getD (x * 2) 0))) := fun x hx => by
          obtain ⟨b', off', z, z', e, _, hz, -, hcell, -⟩ := ((HS.out.below B1.out).below (HBL.out.mono hz1')).duo hx
          injection e with e
          injection e with e1 e2
          subst e1 e2
          rw [hz.out]
          exact hcell
        have HROW : Hid (∀ x, x < j → wo.cell? ⟨g, 0 + x, none⟩ = some (.int .i64 (x : Int)) ∧ wo.frozen? ⟨g, 0 + x, none⟩ = false) := fun x hx => by
          refine ⟨?_, hbk.free _⟩
          rw [hbk.cell, Nat.zero_add, arr_getR (by rw [rangeL_len]; exact hx)]
          congr 2
          rw [List.getD_eq_getElem?_getD, rangeL, List.getElem?_map, List.getElem?_range hx]; rfl
        have HCP : Hid (wo.cell? ⟨w.heap.size, 0, none⟩ = some (.slice (some ⟨bp, op, none⟩) j c)) := (HBP.out.below HBL.out hp1).cell 0
        have HBC := Lib.hid hbc
        have hgl := hbk.lt
        have hgx : g ≠ w1.heap.size + 1 := HGO.out.resolve_right (by omega)
        have HGX := Lib.hid hgx
        have hbpl : bp < w.heap.size := hbp
        have hcp2 := HCP.out
        clear hbk hbp hgx
        go_wp2_with fail
        refine (sort_rts h2 hn wo L w.heap.size (w1.heap.size + 1) bp op c g 0 cap HCP.out HBC.out HPT.out HROW.out (by omega) (fun e => HGX.out e.symm) (by omega)).mono ?_
        rintro e w5 ⟨rfl, hg5, -, hbk5⟩
        have HO5 := Lib.hid (hbk5 2 rest2 rfl HBK.out)
        have HX5 := Lib.hid (blk_farR HBOX.out hg5 (fun e => HGX.out (by injection e with e; exact e.symm)))
        have B5 := Lib.hid (grown_below B2.out hg5 (by omega) B2.out.size)
        have hx5 : w5.cell? ⟨w1.heap.size + 1, 0, none⟩ = some (.slice (some ⟨g, 0, none⟩) j cap) := HX5.out.cell 0
        have hl5 := HX5.out.lt
        clear hg5 hbk5 hbc hcp2
        go_wp2_with fail
        go_ret2
        exact ⟨_, g, cap, rfl, by omega, ⟨by rw [List.length_map, ordL_len, Nat.mul_one], fun _ => ⟨rfl, rest2, HO5.out⟩⟩, B5.out⟩
theorem RatingOrder_any (A : Option Addr) (n c : Nat) (L : List Int) (w : World) (hs : Sl w w.heap.size 2 A n (L.map (Value.int .i64))) (hn : n ≤ 9223372036854775807) (l : List Int) (q : Nat) (code : Int) (hr : roR L n = (l, q, code)) :
    Calls Tryd.prog 11 #[.slice A n c] w (RoPost Tryd.prog l q code w) := by
  by_cases hx : rpE L [] n 0 = 0
  · have h := hr.symm.trans (roR_0 hx)
    injection h with h1 h2
    injection h2 with h2 h3
    subst h1 h2 h3
    exact RatingOrder_0 A _ c L w hs (roE_n hx).1 (roE_n hx).2
  · have HR := Lib.hid hr
    have HSa := Lib.hid (hs.later (Below.alloc (Below.refl _ _) (Nat.le_refl _) (.cells #[.slice A n c] 31)))
    cases hok : okL L n
    case false =>
      have HOK := Lib.hid hok
      have HN : Hid (roR L n = ([], 0, 1)) := roR_ne (by rw [roE, hok]; rfl) (by decide)
      clear hx hr hok hs
      go_enter Tryd.func11, Tryd.ntmps11
      go_wp2_with (go_at_call 28; refine (areRated_lit A n c L _ HSa.out hn false HOK.out).mono ?_; rintro e w1 ⟨rfl, hb1⟩; obtain ⟨hc1, hf1, hl1, hz1⟩ := bfacts hb1; (try simp only [World.size_alloc, World.size_setCell, World.size_drew] at hz1))
      go_ret2
      exact ro_fin HN.out HR.out (by (repeat' (first | (with_reducible exact Below.refl _ _) | (with_reducible assumption) | (with_reducible refine Below.alloc ?_ ?_ _) | (with_reducible refine Below.drew ?_) | (with_reducible refine belowDrewN ?_ _) | (with_reducible refine Below.setCell ?_ ?_ _) | (with_reducible refine Below.via (by with_reducible assumption) ?_ ?_) | (with_reducible refine Below.viaD (by with_reducible assumption) ?_ ?_) | (with_reducible exact Below.size (by with_reducible assumption)) | go_size | (with_reducible refine Nat.le_trans ?_ (Below.size (by with_reducible assumption))) | (with_reducible refine Nat.le_trans ?_ (sizeAlloc _ _)) | (with_reducible refine Nat.le_trans ?_ (sizeSet _ _ _)) | (with_reducible refine Nat.le_trans ?_ (sizeDrew _)))))
    case true =>
      have HOK := Lib.hid hok
      have hbig : 100 < n := by
        rcases Nat.lt_or_ge 100 n with h | h
        · exact h
        · exact absurd (by rw [roE, hok, if_pos rfl, if_pos h]) hx
      have HN : Hid (roR L n = ([], 0, 5)) := roR_ne (by rw [roE, hok, if_pos rfl, if_neg (by omega)]) (by decide)
      clear hx hr hok hs
      go_enter Tryd.func11, Tryd.ntmps11
      go_wp2_with (go_at_call 28; (with_reducible refine Calls.mono (areRated_lit A n c L _ HSa.out hn true HOK.out) ?_); rintro e w1 ⟨rfl, hb1⟩; have HBP := Lib.hid ((Blk.new w 31 #[.slice A n c]).later hb1); have hcb := HBP.out.cell 0; have hpl := HBP.out.lt; simp only [List.getElem?_toArray, List.getElem?_cons_zero] at hcb)
      go_ret2
      exact ro_fin HN.out HR.out (by (repeat' (first | (with_reducible exact Below.refl _ _) | (with_reducible assumption) | (with_reducible refine Below.alloc ?_ ?_ _) | (with_reducible refine Below.drew ?_) | (with_reducible refine belowDrewN ?_ _) | (with_reducible refine Below.setCell ?_ ?_ _) | (with_reducible refine Below.via (by with_reducible assumption) ?_ ?_) | (with_reducible refine Below.viaD (by with_reducible assumption) ?_ ?_) | (with_reducible exact Below.size (by with_reducible assumption)) | go_size | (with_reducible refine Nat.le_trans ?_ (Below.size (by with_reducible assumption))) | (with_reducible refine Nat.le_trans ?_ (sizeAlloc _ _)) | (with_reducible refine Nat.le_trans ?_ (sizeSet _ _ _)) | (with_reducible refine Nat.le_trans ?_ (sizeDrew _)))))
end Go.Proofs.YteeplmnjipddaaaDoor
/- Draws of ratings for expectations. Conditions: at most 2^20 bytes. -/
namespace Go.Proofs.YteeplmnjipddaaaDoor
set_option linter.unusedSimpArgs false
set_option linter.unusedVariables false
open Go.RowKit Go.WideShapes Go.ChangeShapes

def Big6 (n : Nat) (w : World) (e : Ending) (w' : World) : Prop := ∃ q, e = .returned (.bool q) ∧ (q = false → n ≤ 4096) ∧ w = w'
theorem f6big_any (A : Option Addr) (n c : Nat) (w : World) : Calls Tryd.prog 4 #[.slice A n c] w (Big6 n w) := by
  by_cases h : n ≤ 4096
  · have h2 : decide ((4096 : Int) < n) = false := decide_eq_false (by omega)
    go_enter Tryd.func4, Tryd.ntmps4
    go_wp2_with fail
    go_ret
    exact ⟨_, rfl, fun _ => h, rfl⟩
  · have h2 : decide ((4096 : Int) < n) = true := decide_eq_true (by omega)
    go_enter Tryd.func4, Tryd.ntmps4
    go_wp2_with fail
    go_ret
    exact ⟨true, rfl, fun h => by simp at h, rfl⟩
/-- A drawn list of ratings. -/
def OthP (b : Nat) (A : Option Addr) (n c M : Nat) (cs : List Int) (w : World) (e : Ending) (w' : World) : Prop :=
  ∃ (zs : List Int) (v : Value), e = .returned v ∧ w'.ownsRow w.heap.size 2 1 v zs.length (zs.map (Value.int .i64)) ∧ zs.length ≤ 101 ∧ Hid (∀ z ∈ zs, -1 ≤ z ∧ z ≤ 4001) ∧ Src w' b A n c (M + 100) cs ∧ w.grownBy w' (some b)
theorem own_ne {w : World} {base : Nat} {e : TypeId} {size : Nat} {v : Value} {n : Nat} {xs : List Value} {b : Nat} (h : w.ownsRow base e size v n xs) (hb : b < base) : v.ownBlock ≠ some b := by
  intro e
  have := (h.lt b e).1
  omega
theorem made_blk (w : World) (t : TypeId) (n : Nat) : Blk (w.alloc (.cells (madeCells #[Value.int .i64 0] n) t)) w.heap.size t (List.replicate n (Value.int .i64 0)).toArray := by
  rw [← made_one]; exact Blk.new _ _ _
theorem row_of_blk {w : World} {g base : Nat} {t : TypeId} {vs : List Value} (h : Blk w g t vs.toArray) (hb : base ≤ g) (hm : vs.length ≤ maxLen) : w.ownsRow base t 1 (.slice (some ⟨g, 0, none⟩) vs.length vs.length) vs.length vs :=
  ⟨by simp, .inr ⟨g, vs.length, vs.toArray, rfl, hb, h, Nat.le_refl _, hm, by simp, by simp⟩⟩
end Go.Proofs.YteeplmnjipddaaaDoor
