/- Captures: what is taken, by the program. Conditions: lengths below 2^20. -/
import Derived.Test.YtdkljnlkfkjdpaaCap3
namespace Go.Proofs.Ytdkljnlkfkjdpaa
set_option linter.unusedSimpArgs false
set_option linter.unusedVariables false
open Go.RowKit

/-- The pits that are taken backwards, below a place. -/
def runL (P : Nat) (pl : Int) (zs : List Int) : Nat → List Int
  | 0 => []
  | j + 1 => if ownI P j != pl && inB (zs.getD j 0) 2 3 then (j : Int) :: runL P pl zs j else []
/-- What is taken behind the last pit k. -/
def takenK (P : Nat) (pl ca : Int) (zs : List Int) (k : Nat) : List Int :=
  if ca = 1 then runL P pl zs (k + 1)
  else if ca = 2 then (if ownI P k = pl ∧ zs.getD k 0 = 1 ∧ 0 < zs.getD (2 * P - 1 - k) 0 then [(k : Int), ((2 * P - 1 - k : Nat) : Int)] else [])
  else if ca = 3 then (if ownI P k ≠ pl ∧ (zs.getD k 0).tmod 2 = 0 then [(k : Int)] else [])
  else []
def inPits (P : Nat) (l : List Int) : Prop := l.length ≤ 2 * P ∧ ∀ j, j < l.length → ∃ m : Nat, l.getD j 0 = (m : Int) ∧ m < 2 * P
theorem runL_in {P : Nat} {pl : Int} {zs : List Int} : ∀ k, (runL P pl zs k).length ≤ k ∧ ∀ x ∈ runL P pl zs k, ∃ m : Nat, x = (m : Int) ∧ m < k := by
  intro k
  induction k with
  | zero => exact ⟨Nat.le_refl _, fun x hx => by simp [runL] at hx⟩
  | succ k ih =>
    rw [runL]
    split
    · refine ⟨by simp; exact ih.1, fun x hx => ?_⟩
      rcases List.mem_cons.1 hx with rfl | hx
      · exact ⟨k, rfl, by omega⟩
      · obtain ⟨m, e, h⟩ := ih.2 x hx
        exact ⟨m, e, by omega⟩
    · exact ⟨by simp, fun x hx => by simp at hx⟩
theorem inPits_of {P : Nat} {l : List Int} (h1 : l.length ≤ 2 * P) (h2 : ∀ x ∈ l, ∃ m : Nat, x = (m : Int) ∧ m < 2 * P) : inPits P l := ⟨h1, fun j hj => h2 _ (getD_mem 0 hj)⟩
theorem takenK_in {P : Nat} {pl ca : Int} {zs : List Int} {k : Nat} (h2 : 2 ≤ P) (hk : k < 2 * P) : inPits P (takenK P pl ca zs k) := by
  refine inPits_of ?_ ?_
  · unfold takenK
    have := (runL_in (P := P) (pl := pl) (zs := zs) (k + 1)).1
    repeat' split
    all_goals (try simp)
    all_goals omega
  · unfold takenK
    intro x hx
    split at hx
    · obtain ⟨m, e, h⟩ := (runL_in (P := P) (pl := pl) (zs := zs) (k + 1)).2 x hx
      exact ⟨m, e, by omega⟩
    · split at hx
      · split at hx
        · simp at hx
          rcases hx with rfl | rfl
          · exact ⟨k, rfl, hk⟩
          · exact ⟨2 * P - 1 - k, rfl, by omega⟩
        · simp at hx
      · split at hx
        · split at hx
          · simp at hx
            exact ⟨k, hx, hk⟩
          · simp at hx
        · simp at hx
theorem inPits_nil (P : Nat) : inPits P [] := ⟨by simp, fun j hj => absurd hj (by simp)⟩
/-- A list of the call's own. -/
def TkPost (l : List Int) (w : World) (e : Ending) (w' : World) : Prop :=
  ∃ (A : Option Addr) (g cap : Nat), e = .returned (.slice A l.length cap) ∧ w.heap.size ≤ g ∧ l.length ≤ cap ∧ cap ≤ maxLen ∧ OwnV w' g 2 1 A l.length (l.map (Value.int .i64)) ∧ Below w.heap.size w w'
theorem info_int64t : (Try.prog.info? 2).map (fun i => (i.zero, i.size, i.bytes)) = some (some (.int .i64 0), 1, 8) := by kernel_rfl
/-- The two boxes of a call over rules and seeds. -/
theorem caps_at (w : World) (r : Ru) (v1 v2 v3 v4 : Value) (t t' : TypeId) {W : World} (hb : Below ((w.alloc (.cells #[.int .i64 r.p, .int .i64 r.s, .bool r.st, .bool r.sk, .bool r.re, .bool r.fe, .bool r.ag, .int .i64 r.ca, .int .i64 r.sl] t)).alloc (.cells #[v1, v2, v3, v4] t')).heap.size ((w.alloc (.cells #[.int .i64 r.p, .int .i64 r.s, .bool r.st, .bool r.sk, .bool r.re, .bool r.fe, .bool r.ag, .int .i64 r.ca, .int .i64 r.sl] t)).alloc (.cells #[v1, v2, v3, v4] t')) W) :
    (W.cell? ⟨w.heap.size, 0, none⟩ = some (.int .i64 r.p) ∧ W.cell? ⟨w.heap.size, 1, none⟩ = some (.int .i64 r.s) ∧ W.cell? ⟨w.heap.size, 2, none⟩ = some (.bool r.st) ∧ W.cell? ⟨w.heap.size, 3, none⟩ = some (.bool r.sk) ∧ W.cell? ⟨w.heap.size, 4, none⟩ = some (.bool r.re) ∧ W.cell? ⟨w.heap.size, 5, none⟩ = some (.bool r.fe) ∧ W.cell? ⟨w.heap.size, 6, none⟩ = some (.bool r.ag) ∧ W.cell? ⟨w.heap.size, 7, none⟩ = some (.int .i64 r.ca) ∧ W.cell? ⟨w.heap.size, 8, none⟩ = some (.int .i64 r.sl)) ∧
    (W.cell? ⟨w.heap.size + 1, 0, none⟩ = some v1 ∧ W.cell? ⟨w.heap.size + 1, 1, none⟩ = some v2 ∧ W.cell? ⟨w.heap.size + 1, 2, none⟩ = some v3 ∧ W.cell? ⟨w.heap.size + 1, 3, none⟩ = some v4) ∧ Below w.heap.size w W := by
  have RA := ((RuAt.box w t r).later (boxed_ _ (.cells #[v1, v2, v3, v4] t'))).later hb
  have PK := (Blk.new (w.alloc (.cells #[.int .i64 r.p, .int .i64 r.s, .bool r.st, .bool r.sk, .bool r.re, .bool r.fe, .bool r.ag, .int .i64 r.ca, .int .i64 r.sl] t)) t' #[v1, v2, v3, v4]).later hb
  rw [World.size_alloc] at PK
  exact ⟨⟨RA.c0, RA.c1, RA.c2, RA.c3, RA.c4, RA.c5, RA.c6, RA.c7, RA.c8⟩, ⟨PK.cell 0, PK.cell 1, PK.cell 2, PK.cell 3⟩, below_boxed (below_boxed hb)⟩

theorem row_made0 {W : World} {g base : Nat} {e : TypeId} (hg : g = W.heap.size) (hb : base ≤ g) : (W.alloc (.cells #[] e)).ownsRow base e 1 (.slice (some ⟨g, 0, none⟩) 0 0) 0 [] := by
  subst hg
  exact World.ownsRow_made _ _ 0 hb (Nat.zero_le _) rfl
set_option maxRecDepth 100000 in
set_option maxHeartbeats 2000000 in
theorem taken_1 (r : Ru) (P k : Nat) (pl : Int) (zs : List Int) (A1 A2 : Option Addr) (n1 c1 n2 c2 : Nat) (laps : Int) (l : List Int) (w : World) (s1 : Sl w w.heap.size 1 A1 n1 (zs.map (Value.int .i64))) (hP : r.p = (P : Int)) (h2 : 2 ≤ P) (h8 : P ≤ 8) (hn : n1 = 2 * P) (hk : k < 2 * P) (hca : r.ca = 1) (hl : runL P pl zs (k + 1) = l) :
    Calls Try.prog 53 #[.agg #[.int .i64 r.p, .int .i64 r.s, .bool r.st, .bool r.sk, .bool r.re, .bool r.fe, .bool r.ag, .int .i64 r.ca, .int .i64 r.sl], .agg #[.slice A1 n1 c1, .slice A2 n2 c2, .int .i64 k, .int .i64 laps], .int .i64 pl] w (TkPost l w) := by
  have HP := Lib.hid hP
  have HL := Lib.hid hl
  have S1 := Lib.hid s1
  have hca1 : (r.ca == 1) = true := beq_iff_eq.2 hca
  subst hn
  clear hP hl s1 hca
  obtain ⟨o, ho⟩ : ∃ o, ownI P k = o := ⟨_, rfl⟩
  have HO := Lib.hid ho
  clear ho
  obtain ⟨i0, ti, tz0, tz1, tz2⟩ := info_parts info_int64t
  go_enter Try.func53, Try.ntmps53
  go_wp2_with (go_at_call 54; refine (owner_lit r P k o _ HP.out h2 h8 hk HO.out).mono ?_; rintro e w_ ⟨rfl, rfl⟩)
  go_loopw [7, 9] (fun v i wr => ∃ (j : Nat) (acc : List Int), j ≤ k + 1 ∧ i = .int .i64 ((j : Int) - 1) ∧ wr.ownsRow (w.heap.size + 2) 2 1 v acc.length (acc.map (Value.int .i64)) ∧ Hid (acc ++ runL P pl zs j = l) ∧ acc.length + j ≤ 2 * P ∧ Below ((w.alloc (.cells #[.int .i64 r.p, .int .i64 r.s, .bool r.st, .bool r.sk, .bool r.re, .bool r.fe, .bool r.ag, .int .i64 r.ca, .int .i64 r.sl] 29)).alloc (.cells #[.slice A1 (2 * P) c1, .slice A2 n2 c2, .int .i64 k, .int .i64 laps] 31)).heap.size ((w.alloc (.cells #[.int .i64 r.p, .int .i64 r.s, .bool r.st, .bool r.sk, .bool r.re, .bool r.fe, .bool r.ag, .int .i64 r.ca, .int .i64 r.sl] 29)).alloc (.cells #[.slice A1 (2 * P) c1, .slice A2 n2 c2, .int .i64 k, .int .i64 laps] 31)) wr) (fun _ i _ => (intOf i + 1).toNat)
  case atStart =>
    refine ⟨k + 1, [], Nat.le_refl _, by rw [show ((k + 1 : Nat) : Int) - 1 = k from by omega], (row_made0 ?_ (Nat.le_refl _)).alloc _, HL, by simp only [List.length_nil]; omega, by (repeat' (first | (with_reducible exact Below.refl _ _) | (with_reducible assumption) | (with_reducible refine Below.alloc ?_ ?_ _) | (with_reducible refine Below.drew ?_) | (with_reducible refine belowDrewN ?_ _) | (with_reducible refine Below.setCell ?_ ?_ _) | (with_reducible refine Below.via (by with_reducible assumption) ?_ ?_) | (with_reducible refine Below.viaD (by with_reducible assumption) ?_ ?_) | (with_reducible exact Below.size (by with_reducible assumption)) | go_size | (with_reducible refine Nat.le_trans ?_ (Below.size (by with_reducible assumption))) | (with_reducible refine Nat.le_trans ?_ (sizeAlloc _ _)) | (with_reducible refine Nat.le_trans ?_ (sizeSet _ _ _)) | (with_reducible refine Nat.le_trans ?_ (sizeDrew _))))⟩
    simp
  case round =>
    obtain ⟨j, acc, hj, rfl, hown, HA, hlen, hbl⟩ := hrel
    obtain ⟨⟨e0, e1, e2, e3, e4, e5, e6, e7, e8⟩, ⟨d0, d1, d2, d3⟩, hBw⟩ := caps_at w r _ _ _ _ _ _ hbl
    have HOW := Lib.hid hown
    have HBL := Lib.hid hbl
    have hbs := hbl.size
    simp only [World.size_alloc] at hbs
    have hlt0 : w.heap.size < wr.heap.size := by omega
    have hlt1 : w.heap.size + 1 < wr.heap.size := by omega
    clear hown hbl
    rcases j with _ | m
    · have hneg : ¬ (0 : Int) ≤ ((0 : Nat) : Int) - 1 := by omega
      have hA : acc = l := by have := HA.out; rw [runL, List.append_nil] at this; exact this
      subst hA
      obtain ⟨A', g, cap, rfl, hg, hnc, hcm, ho'⟩ := own_of_row HOW.out
      go_wp2_with fail
      go_ret
      exact ⟨A', g, cap, rfl, by omega, hnc, hcm, ho', hBw⟩
    · have hm : ((m + 1 : Nat) : Int) - 1 = (m : Int) := by omega
      rw [hm]
      obtain ⟨b, off, z, rfl, hb, HZ, hc⟩ := (S1.out.later hBw).int (k := m) (by omega)
      obtain ⟨o', ho'⟩ : ∃ o', ownI P m = o' := ⟨_, rfl⟩
      have HO' := Lib.hid ho'
      have HR : Hid (runL P pl zs (m + 1) = if o' != pl && inB z 2 3 then (m : Int) :: runL P pl zs m else []) := by unfold Hid; rw [runL, ho', HZ.out]
      clear ho'
      have hmk : m < 2 * P := by omega
      cases q1 : (o' == pl)
      case true =>
        have q1' : (o' != pl) = false := by rw [bne, q1]; rfl
        have hA : acc = l := by have := HA.out; rw [HR.out, q1'] at this; simpa using this
        subst hA
        obtain ⟨A', g, cap, rfl, hg, hnc, hcm, ho'⟩ := own_of_row HOW.out
        go_wp2_with (go_at_call 54; refine (owner_lit r P m o' _ HP.out h2 h8 hmk HO'.out).mono ?_; rintro e w_ ⟨rfl, rfl⟩)
        go_ret
        exact ⟨A', g, cap, rfl, by omega, hnc, hcm, ho'.later (boxed_ _ _), by (repeat' (first | (with_reducible exact Below.refl _ _) | (with_reducible assumption) | (with_reducible refine Below.alloc ?_ ?_ _) | (with_reducible refine Below.drew ?_) | (with_reducible refine belowDrewN ?_ _) | (with_reducible refine Below.setCell ?_ ?_ _) | (with_reducible refine Below.via (by with_reducible assumption) ?_ ?_) | (with_reducible refine Below.viaD (by with_reducible assumption) ?_ ?_) | (with_reducible exact Below.size (by with_reducible assumption)) | go_size | (with_reducible refine Nat.le_trans ?_ (Below.size (by with_reducible assumption))) | (with_reducible refine Nat.le_trans ?_ (sizeAlloc _ _)) | (with_reducible refine Nat.le_trans ?_ (sizeSet _ _ _)) | (with_reducible refine Nat.le_trans ?_ (sizeDrew _))))⟩
      case false =>
        have q1' : (o' != pl) = true := by rw [bne, q1]; rfl
        cases q2 : inB z 2 3
        case false =>
          have hA : acc = l := by have := HA.out; rw [HR.out, q1', q2] at this; simpa using this
          subst hA
          obtain ⟨A', g, cap, rfl, hg, hnc, hcm, ho'⟩ := own_of_row HOW.out
          go_wp2_with (first | (go_at_call 54; refine (owner_lit r P m o' _ HP.out h2 h8 hmk HO'.out).mono ?_; rintro e w_ ⟨rfl, rfl⟩) | (go_at_call 50; refine (between_any _ _ _ _).mono ?_; rintro e w_ ⟨rfl, rfl⟩))
          go_ret
          exact ⟨A', g, cap, rfl, by omega, hnc, hcm, ho'.later (boxed_ _ _), by (repeat' (first | (with_reducible exact Below.refl _ _) | (with_reducible assumption) | (with_reducible refine Below.alloc ?_ ?_ _) | (with_reducible refine Below.drew ?_) | (with_reducible refine belowDrewN ?_ _) | (with_reducible refine Below.setCell ?_ ?_ _) | (with_reducible refine Below.via (by with_reducible assumption) ?_ ?_) | (with_reducible refine Below.viaD (by with_reducible assumption) ?_ ?_) | (with_reducible exact Below.size (by with_reducible assumption)) | go_size | (with_reducible refine Nat.le_trans ?_ (Below.size (by with_reducible assumption))) | (with_reducible refine Nat.le_trans ?_ (sizeAlloc _ _)) | (with_reducible refine Nat.le_trans ?_ (sizeSet _ _ _)) | (with_reducible refine Nat.le_trans ?_ (sizeDrew _))))⟩
        case true =>
          have HA2 : Hid ((acc ++ [(m : Int)]) ++ runL P pl zs m = l) := by have := HA.out; rw [HR.out, q1', q2] at this; unfold Hid; simpa using this
          go_wp2_with (first | (go_at_call 54; refine (owner_lit r P m o' _ HP.out h2 h8 hmk HO'.out).mono ?_; rintro e w_ ⟨rfl, rfl⟩) | (go_at_call 50; refine (between_any _ _ _ _).mono ?_; rintro e w_ ⟨rfl, rfl⟩) | (at_builtin; refine wpList_append_sl _ rfl _ _ 24 rfl (w.heap.size + 2) 2 i0 _ 1 8 Try.underlying24 ti tz0 tz1 tz2 rfl (by decide) _ acc.length (acc.map (Value.int .i64)) rfl ((HOW.out.alloc _).alloc _) (wr.heap.size + 2) _ 1 1 [.int .i64 m] rfl (Sl.built (by simp) (by simp) rfl) ?c1 ?c2 ?c3 ?c4 ?_))
          case c1 => intro u hu; simp at hu; subst hu; rfl
          case c2 => unfold maxLen; omega
          case c3 => omega
          case c4 => simp; omega
          intro v' w1 hown1 hg1 _
          have hbn : Below ((w.alloc (.cells #[.int .i64 r.p, .int .i64 r.s, .bool r.st, .bool r.sk, .bool r.re, .bool r.fe, .bool r.ag, .int .i64 r.ca, .int .i64 r.sl] 29)).alloc (.cells #[.slice (some ⟨b, off, none⟩) (2 * P) c1, .slice A2 n2 c2, .int .i64 k, .int .i64 laps] 31)).heap.size ((w.alloc (.cells #[.int .i64 r.p, .int .i64 r.s, .bool r.st, .bool r.sk, .bool r.re, .bool r.fe, .bool r.ag, .int .i64 r.ca, .int .i64 r.sl] 29)).alloc (.cells #[.slice (some ⟨b, off, none⟩) (2 * P) c1, .slice A2 n2 c2, .int .i64 k, .int .i64 laps] 31)) w1 := below_app (by have := HBL.out; (repeat' (first | (with_reducible exact Below.refl _ _) | (with_reducible assumption) | (with_reducible refine Below.alloc ?_ ?_ _) | (with_reducible refine Below.drew ?_) | (with_reducible refine belowDrewN ?_ _) | (with_reducible refine Below.setCell ?_ ?_ _) | (with_reducible refine Below.via (by with_reducible assumption) ?_ ?_) | (with_reducible refine Below.viaD (by with_reducible assumption) ?_ ?_) | (with_reducible exact Below.size (by with_reducible assumption)) | go_size | (with_reducible refine Nat.le_trans ?_ (Below.size (by with_reducible assumption))) | (with_reducible refine Nat.le_trans ?_ (sizeAlloc _ _)) | (with_reducible refine Nat.le_trans ?_ (sizeSet _ _ _)) | (with_reducible refine Nat.le_trans ?_ (sizeDrew _))))) ((HOW.out.alloc _).alloc _) hg1 (by simp) (by simp; omega)
          have HO1 := Lib.hid hown1
          clear hown1 hg1
          go_wp2_with fail
          go_roundw
          case rel => exact ⟨m, acc ++ [(m : Int)], by omega, by go_num, by rw [List.length_append, List.map_append]; exact HO1.out, HA2, by simp; omega, hbn⟩
          case measure => first | (simp [intOf]; done) | (simp [intOf]; omega)
end Go.Proofs.Ytdkljnlkfkjdpaa
