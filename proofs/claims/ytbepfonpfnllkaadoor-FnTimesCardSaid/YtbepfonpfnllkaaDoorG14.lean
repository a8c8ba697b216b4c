/- FnTimes: a clock of one's own; whether a clock can go on; a clock that is used. Conditions: a clock in a block. -/
import Derived.Test.YtbepfonpfnllkaaDoorG13
import Derived.Test.YtbepfonpfnllkaaDoorG01
import Derived.Test.YtbepfonpfnllkaaDoorG10
import Derived.Test.YtbepfonpfnllkaaDoorG12
import Derived.Test.YtbepfonpfnllkaaDoorG04
import Derived.Deep.DeepMust
/- Pairings: parts of lists, who has met. Conditions: at most 12 players. -/
namespace Go.Proofs.YtbepfonpfnllkaaDoor
set_option linter.unusedSimpArgs false
set_option linter.unusedVariables false
open Go.RowKit Go.WideShapes

theorem info_i64w : (Tryd.prog.info? 2).map (fun i => (i.zero, i.size, i.bytes)) = some (some (.int .i64 0), 1, 8) := by kernel_rfl
theorem elem_w : Tryd.prog.elem 31 = 2 := by kernel_rfl
theorem und_w : Tryd.prog.underlying 31 = some (.slice (Tryd.prog.elem 31)) := by rw [elem_w]; exact Tryd.underlying31
/-- A part of a slice of numbers. -/
theorem Sl.partw {w : World} {B n c : Nat} {A A' : Option Addr} {zs : List Int} (h : Sl w B 1 A n (zs.map (Value.int .i64))) {l k : Nat} (hl : l ≤ k) (hk : k ≤ n) (hc : n ≤ c) (hA : c ≠ l → A' = A.map (fun a => a.add l)) : Sl w B 1 A' (k - l) (((zs.drop l).take (k - l)).map (Value.int .i64)) := by
  have hlen := h.ints
  refine ⟨by rw [List.length_map, List.length_take, List.length_drop]; omega, fun hp => ?_⟩
  obtain ⟨b, off, e, hb, hcc⟩ := h.2 (by omega)
  rw [hA (by omega), e]
  refine ⟨b, off + l, by simp [Addr.add], hb, fun j u hu => ?_⟩
  rw [List.getElem?_map, List.getElem?_take] at hu
  split at hu
  · rw [List.getElem?_drop, ← List.getElem?_map] at hu
    have := hcc (l + j) u hu
    rw [← Nat.add_assoc] at this
    exact this
  · simp at hu
/-- Players without the first one and the one at a place. -/
def witho (l : List Int) (k : Nat) : List Int := (l.drop 1).take (k - 1) ++ l.drop (k + 1)
theorem witho_len {l : List Int} {k : Nat} (h : k < l.length) (h1 : 1 ≤ k) : (witho l k).length = l.length - 2 := by
  rw [witho, List.length_append, List.length_take, List.length_drop, List.length_drop]; omega
theorem witho_mem {l : List Int} {k : Nat} {x : Int} (h : x ∈ witho l k) : x ∈ l := by
  rw [witho, List.mem_append] at h
  rcases h with h | h
  · exact List.mem_of_mem_drop (List.mem_of_mem_take h)
  · exact List.mem_of_mem_drop h
/-- A list of the call's own behind a call that only makes memory. -/
def RowV (P : Program) (l : List Int) (n : Nat) (w : World) (e : Ending) (w' : World) : Prop := ∃ v, e = .returned v ∧ w'.ownsRow w.heap.size 2 1 v n (l.map (Value.int .i64)) ∧ Below w.heap.size w w'
set_option maxHeartbeats 1000000 in
theorem l00Own_row (A : Option Addr) (n c : Nat) (zs : List Int) (w : World) (hs : Sl w w.heap.size 1 A n (zs.map (Value.int .i64))) (hn : n ≤ 100) :
    Calls Tryd.prog 43 #[.slice A n c] w (RowV Tryd.prog zs n w) := by
  obtain ⟨i0, ti, tz0, tz1, tz2⟩ := info_parts info_i64w
  have HS := Lib.hid hs
  clear hs
  go_enter Tryd.func43, Tryd.ntmps43
  go_wp2_with (at_builtin; refine wpList_append_sl _ rfl _ _ 31 rfl w.heap.size 2 i0 _ 1 8 Tryd.underlying31 ti tz0 tz1 tz2 rfl (by decide) _ 0 [] rfl (World.ownsRow_made _ _ 0 (Nat.le_refl _) (Nat.zero_le _) rfl) w.heap.size A n c (zs.map (Value.int .i64)) rfl (HS.out.below (Below.alloc (Below.refl _ _) (Nat.le_refl _) _)) ?c1 ?c2 ?c3 ?c4 ?_)
  case c1 => intro u hu; rw [List.mem_map] at hu; obtain ⟨b, _, rfl⟩ := hu; rfl
  case c2 => unfold maxLen; omega
  case c3 => omega
  case c4 => simp
  intro v' w3 hown3 hg3 _
  have hbn : Below w.heap.size w w3 := below_app (by (repeat' (first | (with_reducible exact Below.refl _ _) | (with_reducible assumption) | (with_reducible refine Below.alloc ?_ ?_ _) | (with_reducible refine Below.drew ?_) | (with_reducible refine belowDrewN ?_ _) | (with_reducible refine Below.setCell ?_ ?_ _) | (with_reducible refine Below.via (by with_reducible assumption) ?_ ?_) | (with_reducible refine Below.viaD (by with_reducible assumption) ?_ ?_) | (with_reducible exact Below.size (by with_reducible assumption)) | go_size | (with_reducible refine Nat.le_trans ?_ (Below.size (by with_reducible assumption))) | (with_reducible refine Nat.le_trans ?_ (sizeAlloc _ _)) | (with_reducible refine Nat.le_trans ?_ (sizeSet _ _ _)) | (with_reducible refine Nat.le_trans ?_ (sizeDrew _))))) (World.ownsRow_made (e := 2) (size := 1) _ _ 0 (Nat.le_refl _) (Nat.zero_le _) rfl) hg3 (Nat.le_refl _) (by simp)
  have HO3 := Lib.hid hown3
  clear hown3 hg3
  go_wp2_with fail
  go_ret
  exact ⟨v', rfl, HO3.out, hbn⟩
/-- Who has met whom in the first k meetings. -/
def metB (zs : List Int) (a b : Int) : Nat → Bool
  | 0 => false
  | k + 1 => metB zs a b k || ((zs.getD (k * 2) 0 == a && zs.getD (k * 2 + 1) 0 == b) || (zs.getD (k * 2) 0 == b && zs.getD (k * 2 + 1) 0 == a))
theorem metB_mono {zs : List Int} {a b : Int} {k : Nat} : ∀ c, k ≤ c → metB zs a b k = true → metB zs a b c = true
  | 0, h, h2 => by
    obtain rfl : k = 0 := by omega
    exact h2
  | c + 1, h, h2 => by
    by_cases e : k = c + 1
    · subst e
      exact h2
    · rw [metB, metB_mono c (by omega) h2]; rfl
end Go.Proofs.YtbepfonpfnllkaaDoor
/- FnTimes: a clock of one's own; whether a clock can go on; a clock that is used. Conditions: a clock in a block. -/
namespace Go.Proofs.YtbepfonpfnllkaaDoor
set_option linter.unusedSimpArgs false
set_option linter.unusedVariables false
open Go.RowKit Go.WideShapes Go.ChangeShapes

/-- A clock's value that a call returns: its times lie in a block of their own. -/
def OwC (t : TypeId) (n : Nat) (zs : List Int) (inc del pl si : Int) (ru fa : Bool) (w : World) (e : Ending) (w' : World) : Prop :=
  ∃ (A' : Option Addr) (g cp' : Nat), e = .returned (.agg #[.slice A' n cp', .int .i64 inc, .int .i64 del, .int .i64 pl, .int .i64 si, .bool ru, .bool fa]) ∧ w.heap.size ≤ g ∧ n ≤ cp' ∧ OwnV w' g t 1 A' n (zs.map (Value.int .i64)) ∧ Below w.heap.size w w'
theorem blk7 {w : World} {b : Nat} {t : TypeId} {a0 a1 a2 a3 a4 a5 a6 : Value} (h : Blk w b t #[a0, a1, a2, a3, a4, a5, a6]) : (w.cell? ⟨b, 0, none⟩ = some a0 ∧ w.cell? ⟨b, 1, none⟩ = some a1 ∧ w.cell? ⟨b, 2, none⟩ = some a2 ∧ w.cell? ⟨b, 3, none⟩ = some a3 ∧ w.cell? ⟨b, 4, none⟩ = some a4 ∧ w.cell? ⟨b, 5, none⟩ = some a5 ∧ w.cell? ⟨b, 6, none⟩ = some a6) ∧
    (w.frozen? ⟨b, 0, none⟩ = false ∧ w.frozen? ⟨b, 1, none⟩ = false ∧ w.frozen? ⟨b, 2, none⟩ = false ∧ w.frozen? ⟨b, 3, none⟩ = false ∧ w.frozen? ⟨b, 4, none⟩ = false ∧ w.frozen? ⟨b, 5, none⟩ = false ∧ w.frozen? ⟨b, 6, none⟩ = false) ∧ b < w.heap.size :=
  ⟨⟨h.cell 0, h.cell 1, h.cell 2, h.cell 3, h.cell 4, h.cell 5, h.cell 6⟩, ⟨h.free 0, h.free 1, h.free 2, h.free 3, h.free 4, h.free 5, h.free 6⟩, h.lt⟩
theorem c7_keep {w W W' : World} {b0 : Nat} {a0 a1 a2 a3 a4 a5 a6 : Value} (h : (W.cell? ⟨b0, 0, none⟩ = some a0 ∧ W.cell? ⟨b0, 1, none⟩ = some a1 ∧ W.cell? ⟨b0, 2, none⟩ = some a2 ∧ W.cell? ⟨b0, 3, none⟩ = some a3 ∧ W.cell? ⟨b0, 4, none⟩ = some a4 ∧ W.cell? ⟨b0, 5, none⟩ = some a5 ∧ W.cell? ⟨b0, 6, none⟩ = some a6) ∧ Below w.heap.size w W) (hb : Below W.heap.size W W') : (W'.cell? ⟨b0, 0, none⟩ = some a0 ∧ W'.cell? ⟨b0, 1, none⟩ = some a1 ∧ W'.cell? ⟨b0, 2, none⟩ = some a2 ∧ W'.cell? ⟨b0, 3, none⟩ = some a3 ∧ W'.cell? ⟨b0, 4, none⟩ = some a4 ∧ W'.cell? ⟨b0, 5, none⟩ = some a5 ∧ W'.cell? ⟨b0, 6, none⟩ = some a6) ∧ Below w.heap.size w W' := by
  obtain ⟨⟨c0, c1, c2, c3, c4, c5, c6⟩, hB⟩ := h
  have k : ∀ {x o : Nat} {u : Value}, W.cell? ⟨x, o, none⟩ = some u → W'.cell? ⟨x, o, none⟩ = some u := fun {x o u} q => (hb.cell (p := ⟨x, o, none⟩) (cell_lt q)).trans q
  exact ⟨⟨k c0, k c1, k c2, k c3, k c4, k c5, k c6⟩, hB.trans (hb.mono hB.size)⟩
theorem c7_set {w W : World} {b0 g o : Nat} {a0 a1 a2 a3 a4 a5 a6 u : Value} (h : (W.cell? ⟨b0, 0, none⟩ = some a0 ∧ W.cell? ⟨b0, 1, none⟩ = some a1 ∧ W.cell? ⟨b0, 2, none⟩ = some a2 ∧ W.cell? ⟨b0, 3, none⟩ = some a3 ∧ W.cell? ⟨b0, 4, none⟩ = some a4 ∧ W.cell? ⟨b0, 5, none⟩ = some a5 ∧ W.cell? ⟨b0, 6, none⟩ = some a6) ∧ Below w.heap.size w W) (hne : b0 < g) (hg : w.heap.size ≤ g) : ((W.setCell ⟨g, o, none⟩ u).cell? ⟨b0, 0, none⟩ = some a0 ∧ (W.setCell ⟨g, o, none⟩ u).cell? ⟨b0, 1, none⟩ = some a1 ∧ (W.setCell ⟨g, o, none⟩ u).cell? ⟨b0, 2, none⟩ = some a2 ∧ (W.setCell ⟨g, o, none⟩ u).cell? ⟨b0, 3, none⟩ = some a3 ∧ (W.setCell ⟨g, o, none⟩ u).cell? ⟨b0, 4, none⟩ = some a4 ∧ (W.setCell ⟨g, o, none⟩ u).cell? ⟨b0, 5, none⟩ = some a5 ∧ (W.setCell ⟨g, o, none⟩ u).cell? ⟨b0, 6, none⟩ = some a6) ∧ Below w.heap.size w (W.setCell ⟨g, o, none⟩ u) := by
  obtain ⟨⟨c0, c1, c2, c3, c4, c5, c6⟩, hB⟩ := h
  have k : ∀ {x : Nat} {v : Value}, W.cell? ⟨b0, x, none⟩ = some v → (W.setCell ⟨g, o, none⟩ u).cell? ⟨b0, x, none⟩ = some v := fun {x v} q => (World.cell?_setCell_other _ _ _ _ (fun e => by injection e with e; omega)).trans q
  exact ⟨⟨k c0, k c1, k c2, k c3, k c4, k c5, k c6⟩, Below.setCell hB hg _⟩
set_option maxHeartbeats 2000000 in
theorem l23Code_any (A : Option Addr) (n c : Nat) (zs : List Int) (inc del pl si : Int) (ru fa : Bool) (b0 : Nat) (now : Int) (rn : Bool) (w : World) (hs : Sl w w.heap.size 1 A n (zs.map (Value.int .i64))) (hB : Blk w b0 33 #[.slice A n c, .int .i64 inc, .int .i64 del, .int .i64 pl, .int .i64 si, .bool ru, .bool fa]) (hn : n ≤ 9223372036854775807) :
    Calls Tryd.prog 52 #[.pointer (some ⟨b0, 0, none⟩), .int .i64 now, .bool rn] w fun e w' => ∃ code, e = .returned (.int .i64 code) ∧ (code = 0 → vC zs inc del pl si ru fa = true ∧ si ≤ now ∧ now ≤ 36000000) ∧ (vC zs inc del pl si ru fa = true → si ≤ now → now ≤ 36000000 → ru = rn → fa = false → code = 0) ∧ Below w.heap.size w w' := by
  obtain ⟨⟨p0, p1, p2, p3, p4, p5, p6⟩, _, _⟩ := blk7 hB
  have HOK := Lib.hid (l23Ok_any A n c zs inc del pl si ru fa b0 w hs p0 p1 p2 p3 p4 p5 p6 hn)
  obtain ⟨v, hv⟩ : ∃ v, vC zs inc del pl si ru fa = v := ⟨_, rfl⟩
  rw [hv] at HOK
  have HB := Lib.hid hB
  have HV := Lib.hid hv
  clear hv hs hB
  cases v
  case false =>
    go_enter Tryd.func52, Tryd.ntmps52
    go_wp2_with (go_at_call 60; (with_reducible refine Calls.mono HOK.out ?_); rintro e w1 ⟨rfl, hb1⟩)
    go_ret
    exact ⟨1, rfl, fun h => absurd h (by decide), fun h => absurd (HV.out.symm.trans h) (by decide), by (repeat' (first | (with_reducible exact Below.refl _ _) | (with_reducible assumption) | (with_reducible refine Below.alloc ?_ ?_ _) | (with_reducible refine Below.drew ?_) | (with_reducible refine belowDrewN ?_ _) | (with_reducible refine Below.setCell ?_ ?_ _) | (with_reducible refine Below.via (by with_reducible assumption) ?_ ?_) | (with_reducible refine Below.viaD (by with_reducible assumption) ?_ ?_) | (with_reducible exact Below.size (by with_reducible assumption)) | go_size | (with_reducible refine Nat.le_trans ?_ (Below.size (by with_reducible assumption))) | (with_reducible refine Nat.le_trans ?_ (sizeAlloc _ _)) | (with_reducible refine Nat.le_trans ?_ (sizeSet _ _ _)) | (with_reducible refine Nat.le_trans ?_ (sizeDrew _))))⟩
  case true =>
    cases q : inB now si 36000000
    case false =>
      have HQ := Lib.hid q
      clear q
      go_enter Tryd.func52, Tryd.ntmps52
      go_wp2_with (first | (go_at_call 60; (with_reducible refine Calls.mono HOK.out ?_); rintro e w1 ⟨rfl, hb1⟩; have HB1 := HB.out.later hb1; obtain ⟨⟨x0, x1, x2, x3, x4, x5, x6⟩, _, _⟩ := blk7 HB1) | (go_at_call 32; (with_reducible refine Calls.mono (l00In_any _ _ _ _) ?_); rw [HQ.out]; rintro e w2 ⟨rfl, rfl⟩))
      go_ret
      exact ⟨2, rfl, fun h => absurd h (by decide), fun _ h1 h2 => absurd (HQ.out.symm.trans (inB_t h1 h2)) (by decide), by (repeat' (first | (with_reducible exact Below.refl _ _) | (with_reducible assumption) | (with_reducible refine Below.alloc ?_ ?_ _) | (with_reducible refine Below.drew ?_) | (with_reducible refine belowDrewN ?_ _) | (with_reducible refine Below.setCell ?_ ?_ _) | (with_reducible refine Below.via (by with_reducible assumption) ?_ ?_) | (with_reducible refine Below.viaD (by with_reducible assumption) ?_ ?_) | (with_reducible exact Below.size (by with_reducible assumption)) | go_size | (with_reducible refine Nat.le_trans ?_ (Below.size (by with_reducible assumption))) | (with_reducible refine Nat.le_trans ?_ (sizeAlloc _ _)) | (with_reducible refine Nat.le_trans ?_ (sizeSet _ _ _)) | (with_reducible refine Nat.le_trans ?_ (sizeDrew _))))⟩
    case true =>
      have HQ := Lib.hid q
      clear q
      cases ru <;> cases fa <;> cases rn
      all_goals
        go_enter Tryd.func52, Tryd.ntmps52
        go_wp2_with (first | (go_at_call 60; (with_reducible refine Calls.mono HOK.out ?_); rintro e w1 ⟨rfl, hb1⟩; have HB1 := HB.out.later hb1; obtain ⟨⟨x0, x1, x2, x3, x4, x5, x6⟩, _, _⟩ := blk7 HB1) | (go_at_call 32; (with_reducible refine Calls.mono (l00In_any _ _ _ _) ?_); rw [HQ.out]; rintro e w2 ⟨rfl, rfl⟩))
        go_ret
        exact ⟨_, rfl, by first | (intro h; exact absurd h (by decide)) | exact fun _ => ⟨HV.out, inB_of HQ.out⟩, by first | (intro _ _ _ h1 _; exact absurd h1 (by decide)) | (intro _ _ _ _ h2; exact absurd h2 (by decide)) | (intro _ _ _ _ _; rfl), by (repeat' (first | (with_reducible exact Below.refl _ _) | (with_reducible assumption) | (with_reducible refine Below.alloc ?_ ?_ _) | (with_reducible refine Below.drew ?_) | (with_reducible refine belowDrewN ?_ _) | (with_reducible refine Below.setCell ?_ ?_ _) | (with_reducible refine Below.via (by with_reducible assumption) ?_ ?_) | (with_reducible refine Below.viaD (by with_reducible assumption) ?_ ?_) | (with_reducible exact Below.size (by with_reducible assumption)) | go_size | (with_reducible refine Nat.le_trans ?_ (Below.size (by with_reducible assumption))) | (with_reducible refine Nat.le_trans ?_ (sizeAlloc _ _)) | (with_reducible refine Nat.le_trans ?_ (sizeSet _ _ _)) | (with_reducible refine Nat.le_trans ?_ (sizeDrew _))))⟩
set_option maxHeartbeats 1000000 in
theorem l23Left_ex (A : Option Addr) (c : Nat) (z0 z1 inc del pl si : Int) (ru fa : Bool) (b0 : Nat) (now : Int) (w : World) (hs : Sl w w.heap.size 1 A 2 ([z0, z1].map (Value.int .i64))) (hB : Blk w b0 33 #[.slice A 2 c, .int .i64 inc, .int .i64 del, .int .i64 pl, .int .i64 si, .bool ru, .bool fa]) (hpl : pl = 0 ∨ pl = 1) :
    Calls Tryd.prog 61 #[.pointer (some ⟨b0, 0, none⟩), .int .i64 now] w fun e w' => (∃ v, e = .returned (.int .i64 v)) ∧ Below w.heap.size w w' := by
  obtain ⟨⟨p0, p1, p2, p3, p4, p5, p6⟩, _, _⟩ := blk7 hB
  obtain ⟨b, off, rfl, hb, hc⟩ := hs.2 (by omega)
  have hc0 := hc 0 _ rfl
  have hc1 := hc 1 _ rfl
  rw [Nat.add_zero] at hc0
  clear hc hs hB
  rcases hpl with rfl | rfl
  all_goals
    go_enter Tryd.func61, Tryd.ntmps61
    go_wp2_with fail
    first | (refine wp_region_quiet_lit (by kernel_rfl) (by kernel_rfl) ?_; refine WQ.of ?_; (repeat (refine WQ.step (fun K hK => ?_); go_simp; first | (refine hK _ ?_; clear hK K) | (apply Exists.intro; refine ⟨fun _ => ?_, hK _ ?_⟩; ((go_at_call 64; exact quiet_left (l00Max_any _ _ _))); clear hK K))); refine WQ.nil ?_; intro _ hw'; obtain ⟨nq, hw''⟩ := hw'; subst hw'') | go_quiet ((go_at_call 64; exact quiet_left (l00Max_any _ _ _)))
    go_wp2_with fail
    go_ret
    exact ⟨⟨_, rfl⟩, by (repeat' (first | (with_reducible exact Below.refl _ _) | (with_reducible assumption) | (with_reducible refine Below.alloc ?_ ?_ _) | (with_reducible refine Below.drew ?_) | (with_reducible refine belowDrewN ?_ _) | (with_reducible refine Below.setCell ?_ ?_ _) | (with_reducible refine Below.via (by with_reducible assumption) ?_ ?_) | (with_reducible refine Below.viaD (by with_reducible assumption) ?_ ?_) | (with_reducible exact Below.size (by with_reducible assumption)) | go_size | (with_reducible refine Nat.le_trans ?_ (Below.size (by with_reducible assumption))) | (with_reducible refine Nat.le_trans ?_ (sizeAlloc _ _)) | (with_reducible refine Nat.le_trans ?_ (sizeSet _ _ _)) | (with_reducible refine Nat.le_trans ?_ (sizeDrew _))))⟩
theorem blk_setF {w : World} {g g' o : Nat} {t : TypeId} {cs : Array Value} {u : Value} (h : Blk w g t cs) (hne : g ≠ g') : Blk (w.setCell ⟨g', o, none⟩ u) g t cs := (Below.heap_setCell w ⟨g', o, none⟩ u g hne).trans h
set_option maxRecDepth 20000 in
set_option maxHeartbeats 2000000 in
theorem l23Own_any (A : Option Addr) (n c : Nat) (zs : List Int) (inc del pl si : Int) (ru fa : Bool) (b0 : Nat) (w : World) (hs : Sl w w.heap.size 1 A n (zs.map (Value.int .i64))) (hB : Blk w b0 33 #[.slice A n c, .int .i64 inc, .int .i64 del, .int .i64 pl, .int .i64 si, .bool ru, .bool fa]) (hn : n ≤ 2) :
    Calls Tryd.prog 34 #[.pointer (some ⟨b0, 0, none⟩)] w (OwC 2 n zs inc del pl si ru fa w) := by
  have R0 := Lib.hid (Blk.new w 33 #[.slice none 0 0, .int .i64 0, .int .i64 0, .int .i64 0, .int .i64 0, .bool false, .bool false])
  have BA := Lib.hid (Below.alloc (Below.refl w.heap.size w) (Nat.le_refl _) (.cells #[.slice none 0 0, .int .i64 0, .int .i64 0, .int .i64 0, .int .i64 0, .bool false, .bool false] 33))
  have HB := Lib.hid (hB.later BA.out)
  have HS := Lib.hid (hs.later BA.out)
  have hbl := hB.lt
  clear hB
  have HST : Hid (((w.alloc (.cells #[.slice none 0 0, .int .i64 0, .int .i64 0, .int .i64 0, .int .i64 0, .bool false, .bool false] 33)).drew.cell? ⟨b0, 0, none⟩ = some (.slice A n c) ∧ (w.alloc (.cells #[.slice none 0 0, .int .i64 0, .int .i64 0, .int .i64 0, .int .i64 0, .bool false, .bool false] 33)).drew.cell? ⟨b0, 1, none⟩ = some (.int .i64 inc) ∧ (w.alloc (.cells #[.slice none 0 0, .int .i64 0, .int .i64 0, .int .i64 0, .int .i64 0, .bool false, .bool false] 33)).drew.cell? ⟨b0, 2, none⟩ = some (.int .i64 del) ∧ (w.alloc (.cells #[.slice none 0 0, .int .i64 0, .int .i64 0, .int .i64 0, .int .i64 0, .bool false, .bool false] 33)).drew.cell? ⟨b0, 3, none⟩ = some (.int .i64 pl) ∧ (w.alloc (.cells #[.slice none 0 0, .int .i64 0, .int .i64 0, .int .i64 0, .int .i64 0, .bool false, .bool false] 33)).drew.cell? ⟨b0, 4, none⟩ = some (.int .i64 si) ∧ (w.alloc (.cells #[.slice none 0 0, .int .i64 0, .int .i64 0, .int .i64 0, .int .i64 0, .bool false, .bool false] 33)).drew.cell? ⟨b0, 5, none⟩ = some (.bool ru) ∧ (w.alloc (.cells #[.slice none 0 0, .int .i64 0, .int .i64 0, .int .i64 0, .int .i64 0, .bool false, .bool false] 33)).drew.cell? ⟨b0, 6, none⟩ = some (.bool fa)) ∧ Below w.heap.size w (w.alloc (.cells #[.slice none 0 0, .int .i64 0, .int .i64 0, .int .i64 0, .int .i64 0, .bool false, .bool false] 33)).drew) := ⟨(blk7 HB.out).1, belowDrewN BA.out 1⟩
  go_enter Tryd.func34, Tryd.ntmps34
  go_wp2_with fail
  refine wp_region_held_drew (S := (fun W => (W.cell? ⟨b0, 0, none⟩ = some (.slice A n c) ∧ W.cell? ⟨b0, 1, none⟩ = some (.int .i64 inc) ∧ W.cell? ⟨b0, 2, none⟩ = some (.int .i64 del) ∧ W.cell? ⟨b0, 3, none⟩ = some (.int .i64 pl) ∧ W.cell? ⟨b0, 4, none⟩ = some (.int .i64 si) ∧ W.cell? ⟨b0, 5, none⟩ = some (.bool ru) ∧ W.cell? ⟨b0, 6, none⟩ = some (.bool fa)) ∧ Below w.heap.size w W)) (by kernel_rfl) ?_ (fun hHeld => ?_)
  focus ((try dsimp only); (first | (with_reducible exact c7_keep hHeld hb_) | (with_reducible exact HST.out) | ((repeat (with_reducible refine c7_set ?_ hbl (Nat.le_refl _))); with_reducible exact hHeld)))
  refine H_take (i := 0) (v := ?_) rfl (by kernel_rfl) (by kernel_rfl) (by kernel_rfl) (fun _ _ _ h => h) (by rfl) ?_ (by assumption) ?_
  rotate_left
  focus (intro w hSw; obtain ⟨⟨c0, c1, c2, c3, c4, c5, c6⟩, hB⟩ := hSw; go_simp; first | done | with_reducible rfl | (trace_state; fail))
  try simp only [Act.put, List.setIfInBounds_toArray, List.set_cons_zero, List.set_cons_succ]
  refine H_take (i := 1) (v := ?_) rfl (by kernel_rfl) (by kernel_rfl) (by kernel_rfl) (fun _ _ _ h => h) (by rfl) ?_ (by assumption) ?_
  rotate_left
  focus (intro w hSw; obtain ⟨⟨c0, c1, c2, c3, c4, c5, c6⟩, hB⟩ := hSw; go_simp; first | done | with_reducible rfl | (trace_state; fail))
  try simp only [Act.put, List.setIfInBounds_toArray, List.set_cons_zero, List.set_cons_succ]
  refine H_take (i := 2) (v := ?_) rfl (by kernel_rfl) (by kernel_rfl) (by kernel_rfl) (fun _ _ _ h => h) (by rfl) ?_ (by assumption) ?_
  rotate_left
  focus (intro w hSw; obtain ⟨⟨c0, c1, c2, c3, c4, c5, c6⟩, hB⟩ := hSw; go_simp; first | done | with_reducible rfl | (trace_state; fail))
  try simp only [Act.put, List.setIfInBounds_toArray, List.set_cons_zero, List.set_cons_succ]
  refine H_take (i := 3) (v := ?_) rfl (by kernel_rfl) (by kernel_rfl) (by kernel_rfl) (fun _ _ _ h => h) (by rfl) ?_ (by assumption) ?_
  rotate_left
  focus (intro w hSw; obtain ⟨⟨c0, c1, c2, c3, c4, c5, c6⟩, hB⟩ := hSw; go_simp; first | done | with_reducible rfl | (trace_state; fail))
  try simp only [Act.put, List.setIfInBounds_toArray, List.set_cons_zero, List.set_cons_succ]
  refine H_take (i := 5) (v := ?_) rfl (by kernel_rfl) (by kernel_rfl) (by kernel_rfl) (fun _ _ _ h => h) (by rfl) ?_ (by assumption) ?_
  rotate_left
  focus (intro w hSw; obtain ⟨⟨c0, c1, c2, c3, c4, c5, c6⟩, hB⟩ := hSw; go_simp; first | done | with_reducible rfl | (trace_state; fail))
  try simp only [Act.put, List.setIfInBounds_toArray, List.set_cons_zero, List.set_cons_succ]
  refine H_take (i := 6) (v := ?_) rfl (by kernel_rfl) (by kernel_rfl) (by kernel_rfl) (fun _ _ _ h => h) (by rfl) ?_ (by assumption) ?_
  rotate_left
  focus (intro w hSw; obtain ⟨⟨c0, c1, c2, c3, c4, c5, c6⟩, hB⟩ := hSw; go_simp; first | done | with_reducible rfl | (trace_state; fail))
  try simp only [Act.put, List.setIfInBounds_toArray, List.set_cons_zero, List.set_cons_succ]
  refine H_take (i := 7) (v := ?_) rfl (by kernel_rfl) (by kernel_rfl) (by kernel_rfl) (fun _ _ _ h => h) (by rfl) ?_ (by assumption) ?_
  rotate_left
  focus (intro w hSw; obtain ⟨⟨c0, c1, c2, c3, c4, c5, c6⟩, hB⟩ := hSw; go_simp; first | done | with_reducible rfl | (trace_state; fail))
  try simp only [Act.put, List.setIfInBounds_toArray, List.set_cons_zero, List.set_cons_succ]
  refine H_take (i := 8) (v := ?_) rfl (by kernel_rfl) (by kernel_rfl) (by kernel_rfl) (fun _ _ _ h => h) (by rfl) ?_ (by assumption) ?_
  rotate_left
  focus (intro w hSw; obtain ⟨⟨c0, c1, c2, c3, c4, c5, c6⟩, hB⟩ := hSw; go_simp; first | done | with_reducible rfl | (trace_state; fail))
  try simp only [Act.put, List.setIfInBounds_toArray, List.set_cons_zero, List.set_cons_succ]
  refine H_take (i := 9) (v := ?_) rfl (by kernel_rfl) (by kernel_rfl) (by kernel_rfl) (fun _ _ _ h => h) (by rfl) ?_ (by assumption) ?_
  rotate_left
  focus (intro w hSw; obtain ⟨⟨c0, c1, c2, c3, c4, c5, c6⟩, hB⟩ := hSw; go_simp; first | done | with_reducible rfl | (trace_state; fail))
  try simp only [Act.put, List.setIfInBounds_toArray, List.set_cons_zero, List.set_cons_succ]
  refine H_take (i := 10) (v := ?_) rfl (by kernel_rfl) (by kernel_rfl) (by kernel_rfl) (fun _ _ _ h => h) (by rfl) ?_ (by assumption) ?_
  rotate_left
  focus (intro w hSw; obtain ⟨⟨c0, c1, c2, c3, c4, c5, c6⟩, hB⟩ := hSw; go_simp; first | done | with_reducible rfl | (trace_state; fail))
  try simp only [Act.put, List.setIfInBounds_toArray, List.set_cons_zero, List.set_cons_succ]
  refine H_take (i := 11) (v := ?_) rfl (by kernel_rfl) (by kernel_rfl) (by kernel_rfl) (fun _ _ _ h => h) (by rfl) ?_ (by assumption) ?_
  rotate_left
  focus (intro w hSw; obtain ⟨⟨c0, c1, c2, c3, c4, c5, c6⟩, hB⟩ := hSw; go_simp; first | done | with_reducible rfl | (trace_state; fail))
  try simp only [Act.put, List.setIfInBounds_toArray, List.set_cons_zero, List.set_cons_succ]
  refine H_take (i := 12) (v := ?_) rfl (by kernel_rfl) (by kernel_rfl) (by kernel_rfl) (fun _ _ _ h => h) (by rfl) ?_ (by assumption) ?_
  rotate_left
  focus (intro w hSw; obtain ⟨⟨c0, c1, c2, c3, c4, c5, c6⟩, hB⟩ := hSw; go_simp; first | done | with_reducible rfl | (trace_state; fail))
  try simp only [Act.put, List.setIfInBounds_toArray, List.set_cons_zero, List.set_cons_succ]
  refine H_take (i := 13) (v := ?_) rfl (by kernel_rfl) (by kernel_rfl) (by kernel_rfl) (fun _ _ _ h => h) (by rfl) ?_ (by assumption) ?_
  rotate_left
  focus (intro w hSw; obtain ⟨⟨c0, c1, c2, c3, c4, c5, c6⟩, hB⟩ := hSw; go_simp; first | done | with_reducible rfl | (trace_state; fail))
  try simp only [Act.put, List.setIfInBounds_toArray, List.set_cons_zero, List.set_cons_succ]
  refine H_take (i := 14) (v := ?_) rfl (by kernel_rfl) (by kernel_rfl) (by kernel_rfl) (fun _ _ _ h => h) (by rfl) ?_ (by assumption) ?_
  rotate_left
  focus (intro w hSw; obtain ⟨⟨c0, c1, c2, c3, c4, c5, c6⟩, hB⟩ := hSw; go_simp; first | done | with_reducible rfl | (trace_state; fail))
  try simp only [Act.put, List.setIfInBounds_toArray, List.set_cons_zero, List.set_cons_succ]
  refine H_take (i := 15) (v := ?_) rfl (by kernel_rfl) (by kernel_rfl) (by kernel_rfl) (fun _ _ _ h => h) (by rfl) ?_ (by assumption) ?_
  rotate_left
  focus (intro w hSw; obtain ⟨⟨c0, c1, c2, c3, c4, c5, c6⟩, hB⟩ := hSw; go_simp; first | done | with_reducible rfl | (trace_state; fail))
  try simp only [Act.put, List.setIfInBounds_toArray, List.set_cons_zero, List.set_cons_succ]
  refine H_take (i := 16) (v := ?_) rfl (by kernel_rfl) (by kernel_rfl) (by kernel_rfl) (fun _ _ _ h => h) (by rfl) ?_ (by assumption) ?_
  rotate_left
  focus (intro w hSw; obtain ⟨⟨c0, c1, c2, c3, c4, c5, c6⟩, hB⟩ := hSw; go_simp; first | done | with_reducible rfl | (trace_state; fail))
  try simp only [Act.put, List.setIfInBounds_toArray, List.set_cons_zero, List.set_cons_succ]
  refine H_take (i := 17) (v := ?_) rfl (by kernel_rfl) (by kernel_rfl) (by kernel_rfl) (fun _ _ _ h => h) (by rfl) ?_ (by assumption) ?_
  rotate_left
  focus (intro w hSw; obtain ⟨⟨c0, c1, c2, c3, c4, c5, c6⟩, hB⟩ := hSw; go_simp; first | done | with_reducible rfl | (trace_state; fail))
  try simp only [Act.put, List.setIfInBounds_toArray, List.set_cons_zero, List.set_cons_succ]
  refine H_take (i := 18) (v := ?_) rfl (by kernel_rfl) (by kernel_rfl) (by kernel_rfl) (fun _ _ _ h => h) (by rfl) ?_ (by assumption) ?_
  rotate_left
  focus (intro w hSw; obtain ⟨⟨c0, c1, c2, c3, c4, c5, c6⟩, hB⟩ := hSw; go_simp; first | done | with_reducible rfl | (trace_state; fail))
  try simp only [Act.put, List.setIfInBounds_toArray, List.set_cons_zero, List.set_cons_succ]
  refine H_take (i := 19) (v := ?_) rfl (by kernel_rfl) (by kernel_rfl) (by kernel_rfl) (fun _ _ _ h => h) (by rfl) ?_ (by assumption) ?_
  rotate_left
  focus (intro w hSw; obtain ⟨⟨c0, c1, c2, c3, c4, c5, c6⟩, hB⟩ := hSw; go_simp; first | done | with_reducible rfl | (trace_state; fail))
  try simp only [Act.put, List.setIfInBounds_toArray, List.set_cons_zero, List.set_cons_succ]
  refine H_take (i := 20) (v := ?_) rfl (by kernel_rfl) (by kernel_rfl) (by kernel_rfl) (fun _ _ _ h => h) (by rfl) ?_ (by assumption) ?_
  rotate_left
  focus (intro w hSw; obtain ⟨⟨c0, c1, c2, c3, c4, c5, c6⟩, hB⟩ := hSw; go_simp; first | done | with_reducible rfl | (trace_state; fail))
  try simp only [Act.put, List.setIfInBounds_toArray, List.set_cons_zero, List.set_cons_succ]
  refine H_take (i := 21) (v := ?_) rfl (by kernel_rfl) (by kernel_rfl) (by kernel_rfl) (fun _ _ _ h => h) (by rfl) ?_ (by assumption) ?_
  rotate_left
  focus (intro w hSw; obtain ⟨⟨c0, c1, c2, c3, c4, c5, c6⟩, hB⟩ := hSw; go_simp; first | done | with_reducible rfl | (trace_state; fail))
  try simp only [Act.put, List.setIfInBounds_toArray, List.set_cons_zero, List.set_cons_succ]
  refine H_take (i := 22) (v := ?_) rfl (by kernel_rfl) (by kernel_rfl) (by kernel_rfl) (fun _ _ _ h => h) (by rfl) ?_ (by assumption) ?_
  rotate_left
  focus (intro w hSw; obtain ⟨⟨c0, c1, c2, c3, c4, c5, c6⟩, hB⟩ := hSw; go_simp; first | done | with_reducible rfl | (trace_state; fail))
  try simp only [Act.put, List.setIfInBounds_toArray, List.set_cons_zero, List.set_cons_succ]
  refine H_take (i := 23) (v := ?_) rfl (by kernel_rfl) (by kernel_rfl) (by kernel_rfl) (fun _ _ _ h => h) (by rfl) ?_ (by assumption) ?_
  rotate_left
  focus (intro w hSw; obtain ⟨⟨c0, c1, c2, c3, c4, c5, c6⟩, hB⟩ := hSw; go_simp; first | done | with_reducible rfl | (trace_state; fail))
  try simp only [Act.put, List.setIfInBounds_toArray, List.set_cons_zero, List.set_cons_succ]
  refine H_take (i := 24) (v := ?_) rfl (by kernel_rfl) (by kernel_rfl) (by kernel_rfl) (fun _ _ _ h => h) (by rfl) ?_ (by assumption) ?_
  rotate_left
  focus (intro w hSw; obtain ⟨⟨c0, c1, c2, c3, c4, c5, c6⟩, hB⟩ := hSw; go_simp; first | done | with_reducible rfl | (trace_state; fail))
  try simp only [Act.put, List.setIfInBounds_toArray, List.set_cons_zero, List.set_cons_succ]
  refine H_take (i := 25) (v := ?_) rfl (by kernel_rfl) (by kernel_rfl) (by kernel_rfl) (fun _ _ _ h => h) (by rfl) ?_ (by assumption) ?_
  rotate_left
  focus (intro w hSw; obtain ⟨⟨c0, c1, c2, c3, c4, c5, c6⟩, hB⟩ := hSw; go_simp; first | done | with_reducible rfl | (trace_state; fail))
  try simp only [Act.put, List.setIfInBounds_toArray, List.set_cons_zero, List.set_cons_succ]
  refine H_take (i := 26) (v := ?_) rfl (by kernel_rfl) (by kernel_rfl) (by kernel_rfl) (fun _ _ _ h => h) (by rfl) ?_ (by assumption) ?_
  rotate_left
  focus (intro w hSw; obtain ⟨⟨c0, c1, c2, c3, c4, c5, c6⟩, hB⟩ := hSw; go_simp; first | done | with_reducible rfl | (trace_state; fail))
  try simp only [Act.put, List.setIfInBounds_toArray, List.set_cons_zero, List.set_cons_succ]
  refine H_take (i := 27) (v := ?_) rfl (by kernel_rfl) (by kernel_rfl) (by kernel_rfl) (fun _ _ _ h => h) (by rfl) ?_ (by assumption) ?_
  rotate_left
  focus (intro w hSw; obtain ⟨⟨c0, c1, c2, c3, c4, c5, c6⟩, hB⟩ := hSw; go_simp; first | done | with_reducible rfl | (trace_state; fail))
  try simp only [Act.put, List.setIfInBounds_toArray, List.set_cons_zero, List.set_cons_succ]
  refine H_take (i := 28) (v := ?_) rfl (by kernel_rfl) (by kernel_rfl) (by kernel_rfl) (fun _ _ _ h => h) (by rfl) ?_ (by assumption) ?_
  rotate_left
  focus (intro w hSw; obtain ⟨⟨c0, c1, c2, c3, c4, c5, c6⟩, hB⟩ := hSw; go_simp; first | done | with_reducible rfl | (trace_state; fail))
  try simp only [Act.put, List.setIfInBounds_toArray, List.set_cons_zero, List.set_cons_succ]
  refine H_call (i := 4) rfl (by kernel_rfl) (fun K hK => ?_)
  go_simp
  (go_at_call 43; (refine Calls.mono (l00Own_row A n c zs _ ((hs.below hHeld.2).mono hHeld.2.size) (by omega)) ?_); rintro e v1 ⟨v, rfl, hown, hb_⟩; obtain ⟨A1, g1, cp1, rfl, hg1, hc1, hm1, ho1⟩ := own_of_row hown; have HR1 := R0.out.later (Below.undrew hb_); obtain ⟨⟨r0, r1, r2, r3, r4, r5, r6⟩, ⟨f0, f1, f2, f3, f4, f5, f6⟩, hrl⟩ := blk7 HR1)
  refine hK.out _ _ ?_ (fun hHeld => ?_)
  focus ((try dsimp only); (first | (with_reducible exact c7_keep hHeld hb_) | (with_reducible exact HST.out) | ((repeat (with_reducible refine c7_set ?_ hbl (Nat.le_refl _))); with_reducible exact hHeld)))
  clear hK K
  try simp only [Act.put, List.setIfInBounds_toArray, List.set_cons_zero, List.set_cons_succ]
  refine H_take (i := 29) (v := ?_) rfl (by kernel_rfl) (by kernel_rfl) (by kernel_rfl) (fun _ _ _ h => h) (by rfl) ?_ (by assumption) ?_
  rotate_left
  focus (intro w hSw; obtain ⟨⟨c0, c1, c2, c3, c4, c5, c6⟩, hB⟩ := hSw; go_simp; first | done | with_reducible rfl | (trace_state; fail))
  try simp only [Act.put, List.setIfInBounds_toArray, List.set_cons_zero, List.set_cons_succ]
  refine H_call (i := 30) rfl (by kernel_rfl) (fun K hK => ?_)
  go_simp
  skip
  refine hK.out _ _ ?_ (fun hHeld => ?_)
  focus ((try dsimp only); (first | (with_reducible exact c7_keep hHeld hb_) | (with_reducible exact HST.out) | ((repeat (with_reducible refine c7_set ?_ hbl (Nat.le_refl _))); with_reducible exact hHeld)))
  clear hK K
  try simp only [Act.put, List.setIfInBounds_toArray, List.set_cons_zero, List.set_cons_succ]
  refine wpAnyH_done (by kernel_rfl) ?_ _
  go_wp2_with fail
  (try simp only [Exit.inBlock, Exit.then])
  refine bodyPost_ret (by simp [results, Tryd.results34, go_sem, r0, r1, r2, r3, r4, r5, r6, f0, f1, f2, f3, f4, f5, f6]; try rfl) rfl ?_
  have hz1 : w.heap.size + 1 ≤ g1 := by have : (w.alloc (.cells #[.slice none 0 0, .int .i64 0, .int .i64 0, .int .i64 0, .int .i64 0, .bool false, .bool false] 33)).drew.heap.size = w.heap.size + 1 := by simp
                                        omega
  refine ⟨A1, g1, cp1, rfl, by omega, hc1, ?_, hHeld.2⟩
  exact ⟨ho1.len, fun h => ⟨(ho1.blk h).1, (ho1.blk h).2.elim fun rest hb => ⟨rest, by (repeat (refine blk_setF ?_ (by omega))); exact hb⟩⟩⟩
end Go.Proofs.YtbepfonpfnllkaaDoor
