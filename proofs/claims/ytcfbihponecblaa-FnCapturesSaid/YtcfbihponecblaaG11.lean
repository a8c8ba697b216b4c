/- Sums of seeds; places of positions. Conditions: lengths below 2^20. -/
import Derived.Test.YtcfbihponecblaaG04
import Derived.Test.YtcfbihponecblaaG00
/- Sown as data: the laws' own copies and comparisons. Conditions: lengths below 2^20. -/
namespace Go.Proofs.Ytcfbihponecblaa
set_option linter.unusedSimpArgs false
set_option linter.unusedVariables false
open Go.RowKit Go.WideShapes Go.ChangeShapes Go.Deep

/-- What a Sown holds. -/
structure SownD where
  pits : List Int
  stores : List Int
  last : Int
  laps : Int
/-- The cells read as the data. -/
def XSown (w : World) (cs : List Value) (d : SownD) : Prop := ∃ (A_pits : Option Addr) (n_pits c_pits : Nat) (A_stores : Option Addr) (n_stores c_stores : Nat), cs = [.slice A_pits n_pits c_pits, .slice A_stores n_stores c_stores, .int .i64 d.last, .int .i64 d.laps] ∧ Sl w w.heap.size 1 A_pits n_pits (d.pits.map (Value.int .i64)) ∧ n_pits ≤ 9223372036854775807 ∧ Sl w w.heap.size 1 A_stores n_stores (d.stores.map (Value.int .i64)) ∧ n_stores ≤ 9223372036854775807
theorem XSown.later {w w' : World} {cs : List Value} {d : SownD} (h : XSown w cs d) (hb : Below w.heap.size w w') : XSown w' cs d := by
  obtain ⟨A_pits, n_pits, c_pits, A_stores, n_stores, c_stores, e, s_pits, l_pits, s_stores, l_stores⟩ := h
  exact ⟨_, _, _, _, _, _, e, s_pits.later hb, l_pits, s_stores.later hb, l_stores⟩
theorem XSown.drew {w : World} {cs : List Value} {d : SownD} (h : XSown w cs d) : XSown w.drew cs d := by
  obtain ⟨A_pits, n_pits, c_pits, A_stores, n_stores, c_stores, e, s_pits, l_pits, s_stores, l_stores⟩ := h
  exact ⟨_, _, _, _, _, _, e, s_pits.drew, l_pits, s_stores.drew, l_stores⟩
theorem XSown.drewN {w : World} {cs : List Value} {d : SownD} (h : XSown w cs d) (k : Nat) : XSown (w.drewN k) cs d := by
  obtain ⟨A_pits, n_pits, c_pits, A_stores, n_stores, c_stores, e, s_pits, l_pits, s_stores, l_stores⟩ := h
  exact ⟨_, _, _, _, _, _, e, s_pits.drewN k, l_pits, s_stores.drewN k, l_stores⟩
theorem XSown.boxed {w : World} {cs : List Value} {d : SownD} (h : XSown w cs d) (o : Obj) : XSown (w.alloc o) cs d := h.later (boxed_ w o)
theorem XSown.len {w : World} {cs : List Value} {d : SownD} (h : XSown w cs d) : cs.length = 4 := by
  obtain ⟨A_pits, n_pits, c_pits, A_stores, n_stores, c_stores, e, s_pits, l_pits, s_stores, l_stores⟩ := h
  rw [e]; rfl
/-- How many numbers the lists hold. -/
def szSown (d : SownD) : Nat := d.pits.length + d.stores.length
def ToSown (d : SownD) (w : World) (e : Ending) (w' : World) : Prop := ∃ cs, e = .returned (.agg cs.toArray) ∧ cs.length = 4 ∧ Kept w.heap.size w' (fun w'' => XSown w'' cs d) ∧ Below w.heap.size w w'
end Go.Proofs.Ytcfbihponecblaa
/- Valid rules, by both functions. No conditions. -/
namespace Go.Proofs.Ytcfbihponecblaa
set_option linter.unusedSimpArgs false
set_option linter.unusedVariables false
open Go.RowKit

def okRu (r : Ru) : Bool := inB r.p 2 8 && inB r.s 1 6 && inB r.ca 0 3 && inB r.sl 0 2 && (r.st || !r.ag)
/-- Rules that lie at a place. -/
structure RuAt (w : World) (b o : Nat) (r : Ru) : Prop where
  c0 : w.cell? ⟨b, o, none⟩ = some (.int .i64 r.p)
  c1 : w.cell? ⟨b, o + 1, none⟩ = some (.int .i64 r.s)
  c2 : w.cell? ⟨b, o + 2, none⟩ = some (.bool r.st)
  c3 : w.cell? ⟨b, o + 3, none⟩ = some (.bool r.sk)
  c4 : w.cell? ⟨b, o + 4, none⟩ = some (.bool r.re)
  c5 : w.cell? ⟨b, o + 5, none⟩ = some (.bool r.fe)
  c6 : w.cell? ⟨b, o + 6, none⟩ = some (.bool r.ag)
  c7 : w.cell? ⟨b, o + 7, none⟩ = some (.int .i64 r.ca)
  c8 : w.cell? ⟨b, o + 8, none⟩ = some (.int .i64 r.sl)
theorem RuAt.later {w w' : World} {b o : Nat} {r : Ru} (h : RuAt w b o r) (hb : Below w.heap.size w w') : RuAt w' b o r := by
  have hl := cell_lt h.c0
  exact ⟨(hb.cell (p := ⟨b, o, none⟩) hl).trans h.c0, (hb.cell (p := ⟨b, o + 1, none⟩) hl).trans h.c1, (hb.cell (p := ⟨b, o + 2, none⟩) hl).trans h.c2, (hb.cell (p := ⟨b, o + 3, none⟩) hl).trans h.c3, (hb.cell (p := ⟨b, o + 4, none⟩) hl).trans h.c4, (hb.cell (p := ⟨b, o + 5, none⟩) hl).trans h.c5, (hb.cell (p := ⟨b, o + 6, none⟩) hl).trans h.c6, (hb.cell (p := ⟨b, o + 7, none⟩) hl).trans h.c7, (hb.cell (p := ⟨b, o + 8, none⟩) hl).trans h.c8⟩
theorem RuAt.drewN {w : World} {b o : Nat} {r : Ru} (h : RuAt w b o r) (k : Nat) : RuAt (w.drewN k) b o r := ⟨h.c0, h.c1, h.c2, h.c3, h.c4, h.c5, h.c6, h.c7, h.c8⟩
theorem RuAt.drew {w : World} {b o : Nat} {r : Ru} (h : RuAt w b o r) : RuAt w.drew b o r := ⟨h.c0, h.c1, h.c2, h.c3, h.c4, h.c5, h.c6, h.c7, h.c8⟩
theorem RuAt.new (w : World) (t : TypeId) (r : Ru) (xs : List Value) : RuAt (w.alloc (.cells (([.int .i64 r.p, .int .i64 r.s, .bool r.st, .bool r.sk, .bool r.re, .bool r.fe, .bool r.ag, .int .i64 r.ca, .int .i64 r.sl] : List Value) ++ xs).toArray t)) w.heap.size 0 r :=
  have h := Blk.new w t (([.int .i64 r.p, .int .i64 r.s, .bool r.st, .bool r.sk, .bool r.re, .bool r.fe, .bool r.ag, .int .i64 r.ca, .int .i64 r.sl] : List Value) ++ xs).toArray
  ⟨h.cell 0, h.cell 1, h.cell 2, h.cell 3, h.cell 4, h.cell 5, h.cell 6, h.cell 7, h.cell 8⟩
theorem RuAt.box (w : World) (t : TypeId) (r : Ru) : RuAt (w.alloc (.cells #[.int .i64 r.p, .int .i64 r.s, .bool r.st, .bool r.sk, .bool r.re, .bool r.fe, .bool r.ag, .int .i64 r.ca, .int .i64 r.sl] t)) w.heap.size 0 r := RuAt.new w t r []
set_option maxHeartbeats 1000000 in
theorem ValidRules_lit (r : Ru) (w : World) : Calls Try.prog 41 #[.agg #[.int .i64 r.p, .int .i64 r.s, .bool r.st, .bool r.sk, .bool r.re, .bool r.fe, .bool r.ag, .int .i64 r.ca, .int .i64 r.sl]] w fun e w' => e = .returned (.bool (okRu r)) ∧ w' = w.alloc (.cells #[.int .i64 r.p, .int .i64 r.s, .bool r.st, .bool r.sk, .bool r.re, .bool r.fe, .bool r.ag, .int .i64 r.ca, .int .i64 r.sl] 25) := by
  obtain ⟨q, hq⟩ : ∃ q, okRu r = q := ⟨_, rfl⟩
  have HR := Lib.hid hq
  clear hq
  rw [HR.out]
  go_enter Try.func41, Try.ntmps41
  go_wp2_with (go_at_call 30; refine (between_any _ _ _ _).mono ?_; rintro e w_ ⟨rfl, rfl⟩)
  all_goals
    have h1 := HR.out
    simp only [okRu] at h1
    go_ret
    subst h1
    exact ⟨by simp [*], by first | rfl | simp [*]⟩
theorem ValidRules_any (r : Ru) (w : World) : Calls Try.prog 41 #[.agg #[.int .i64 r.p, .int .i64 r.s, .bool r.st, .bool r.sk, .bool r.re, .bool r.fe, .bool r.ag, .int .i64 r.ca, .int .i64 r.sl]] w fun e w' => e = .returned (.bool (okRu r)) ∧ Below w.heap.size w w' :=
  (ValidRules_lit r w).mono fun e w' ⟨he, hw⟩ => ⟨he, by subst hw; exact boxed_ _ _⟩
set_option maxHeartbeats 1000000 in
theorem l02Ok_any (r : Ru) (b o : Nat) (w : World) (h : RuAt w b o r) : Calls Try.prog 39 #[.pointer (some ⟨b, o, none⟩)] w fun e w' => e = .returned (.bool (okRu r)) ∧ w = w' := by
  obtain ⟨h0, h1, h2, h3, h4, h5, h6, h7, h8⟩ := h
  obtain ⟨q, hq⟩ : ∃ q, okRu r = q := ⟨_, rfl⟩
  have HR := Lib.hid hq
  clear hq
  rw [HR.out]
  go_enter Try.func39, Try.ntmps39
  go_wp2_with (go_at_call 27; refine (l00In_any _ _ _ _).mono ?_; rintro e w_ ⟨rfl, rfl⟩)
  all_goals
    have h1 := HR.out
    simp only [okRu] at h1
    go_ret
    refine ⟨?_, rfl⟩
    subst h1
    simp [*]
end Go.Proofs.Ytcfbihponecblaa
/- Position as data: the laws' own copies and comparisons. Conditions: lengths below 2^20. -/
namespace Go.Proofs.Ytcfbihponecblaa
set_option linter.unusedSimpArgs false
set_option linter.unusedVariables false
open Go.RowKit Go.WideShapes Go.ChangeShapes Go.Deep

/-- What a Position holds. -/
structure PositionD where
  pits : List Int
  stores : List Int
  player : Int
/-- The cells read as the data. -/
def XPosition (w : World) (cs : List Value) (d : PositionD) : Prop := ∃ (A_pits : Option Addr) (n_pits c_pits : Nat) (A_stores : Option Addr) (n_stores c_stores : Nat), cs = [.slice A_pits n_pits c_pits, .slice A_stores n_stores c_stores, .int .i64 d.player] ∧ Sl w w.heap.size 1 A_pits n_pits (d.pits.map (Value.int .i64)) ∧ n_pits ≤ 9223372036854775807 ∧ Sl w w.heap.size 1 A_stores n_stores (d.stores.map (Value.int .i64)) ∧ n_stores ≤ 9223372036854775807
theorem XPosition.later {w w' : World} {cs : List Value} {d : PositionD} (h : XPosition w cs d) (hb : Below w.heap.size w w') : XPosition w' cs d := by
  obtain ⟨A_pits, n_pits, c_pits, A_stores, n_stores, c_stores, e, s_pits, l_pits, s_stores, l_stores⟩ := h
  exact ⟨_, _, _, _, _, _, e, s_pits.later hb, l_pits, s_stores.later hb, l_stores⟩
theorem XPosition.drew {w : World} {cs : List Value} {d : PositionD} (h : XPosition w cs d) : XPosition w.drew cs d := by
  obtain ⟨A_pits, n_pits, c_pits, A_stores, n_stores, c_stores, e, s_pits, l_pits, s_stores, l_stores⟩ := h
  exact ⟨_, _, _, _, _, _, e, s_pits.drew, l_pits, s_stores.drew, l_stores⟩
theorem XPosition.drewN {w : World} {cs : List Value} {d : PositionD} (h : XPosition w cs d) (k : Nat) : XPosition (w.drewN k) cs d := by
  obtain ⟨A_pits, n_pits, c_pits, A_stores, n_stores, c_stores, e, s_pits, l_pits, s_stores, l_stores⟩ := h
  exact ⟨_, _, _, _, _, _, e, s_pits.drewN k, l_pits, s_stores.drewN k, l_stores⟩
theorem XPosition.boxed {w : World} {cs : List Value} {d : PositionD} (h : XPosition w cs d) (o : Obj) : XPosition (w.alloc o) cs d := h.later (boxed_ w o)
theorem XPosition.len {w : World} {cs : List Value} {d : PositionD} (h : XPosition w cs d) : cs.length = 3 := by
  obtain ⟨A_pits, n_pits, c_pits, A_stores, n_stores, c_stores, e, s_pits, l_pits, s_stores, l_stores⟩ := h
  rw [e]; rfl
/-- How many numbers the lists hold. -/
def szPosition (d : PositionD) : Nat := d.pits.length + d.stores.length
def ToPosition (d : PositionD) (w : World) (e : Ending) (w' : World) : Prop := ∃ cs, e = .returned (.agg cs.toArray) ∧ cs.length = 3 ∧ Kept w.heap.size w' (fun w'' => XPosition w'' cs d) ∧ Below w.heap.size w w'
end Go.Proofs.Ytcfbihponecblaa
/- Sums of seeds; places of positions. Conditions: lengths below 2^20. -/
namespace Go.Proofs.Ytcfbihponecblaa
set_option linter.unusedSimpArgs false
set_option linter.unusedVariables false
open Go.RowKit

def psum (zs : List Int) : Nat → Int
  | 0 => 0
  | k + 1 => psum zs k + zs.getD k 0
def okL (zs : List Int) : Bool := zs.all (fun z => inB z 0 96)
def sumR (zs : List Int) (n : Nat) : Int × Bool := if okL zs then (psum zs n, true) else (0, false)
def sumS (zs : List Int) (n : Nat) : Int := if okL zs && decide (psum zs n ≤ 96) then psum zs n else -1
theorem okL_of {zs : List Int} (h : okL zs = true) {j : Nat} (hj : j < zs.length) : 0 ≤ zs.getD j 0 ∧ zs.getD j 0 ≤ 96 := inB_of (List.all_eq_true.1 h _ (getD_mem 0 hj))
theorem psum_bd {zs : List Int} {k : Nat} (h : ∀ j, j < k → inB (zs.getD j 0) 0 96 = true) : 0 ≤ psum zs k ∧ psum zs k ≤ 96 * (k : Int) := by
  induction k with
  | zero => simp [psum]
  | succ k ih =>
    have h1 := ih (fun j hj => h j (by omega))
    have h2 := inB_of (h k (by omega))
    rw [psum]
    omega
theorem sumR_f {zs : List Int} {n k : Nat} (hk : k < zs.length) (h : inB (zs.getD k 0) 0 96 = false) : sumR zs n = (0, false) := by
  have : okL zs = false := all_false hk h
  rw [sumR, this]; rfl
theorem okL_t {zs : List Int} (h : ∀ j, j < zs.length → inB (zs.getD j 0) 0 96 = true) : okL zs = true := all_true (d := 0) h
theorem pairB {x x' : Int} {z z' : Bool} (h : (x', z') = (x, z)) : x' = x ∧ z' = z := by
  injection h with h1 h2
  exact ⟨h1, h2⟩
set_option maxHeartbeats 1000000 in
theorem sumOf_any (A : Option Addr) (n c : Nat) (zs : List Int) (w : World) (hs : Sl w w.heap.size 1 A n (zs.map (Value.int .i64))) (hn : n ≤ 1048576) (s : Int) (b : Bool) (hr : sumR zs n = (s, b)) :
    Calls Try.prog 42 #[.slice A n c] w fun e w' => e = .returned (.tuple #[.int .i64 s, .bool b]) ∧ w = w' := by
  have HL := Lib.hid hs.ints
  have HR := Lib.hid hr
  clear hr
  go_enter Try.func42, Try.ntmps42
  go_wp2
  go_loop [4, 9] (fun l i => ∃ k : Nat, k ≤ n ∧ i = .int .i64 k ∧ l = .int .i64 (psum zs k) ∧ Hid (∀ j, j < k → inB (zs.getD j 0) 0 96 = true)) (fun _ i => n - (intOf i).toNat)
  case atStart => exact ⟨0, Nat.zero_le _, rfl, rfl, fun j hj => absurd hj (by omega)⟩
  case round =>
    obtain ⟨k, hk, rfl, rfl, hpre⟩ := hrel
    by_cases hlt : k < n
    · obtain ⟨b, off, z, rfl, hb, HZ, hc⟩ := hs.int hlt
      obtain ⟨p1, p2⟩ := psum_bd hpre.out
      have HP : Hid (psum zs (k + 1) = psum zs k + z) := by unfold Hid; rw [psum, HZ.out]
      revert p1 p2 HP
      generalize psum zs k = u
      intro p1 p2 HP
      cases q : inB z 0 96
      case false =>
        have hE : Hid (sumR zs n = (0, false)) := sumR_f (by rw [HL.out]; exact hlt) (by rw [HZ.out]; exact q)
        obtain ⟨rfl, rfl⟩ := pairB (HR.out.symm.trans hE.out)
        go_wp2_with (go_at_call 30; refine (between_any _ _ _ _).mono ?_; rintro e w_ ⟨rfl, rfl⟩)
        go_ret2
        exact ⟨rfl, rfl⟩
      case true =>
        have HQ := Lib.hid q
        obtain ⟨z1, z2⟩ := inB_of q
        go_wp2_with (go_at_call 30; refine (between_any _ _ _ _).mono ?_; rintro e w_ ⟨rfl, rfl⟩)
        go_round
        case rel =>
          refine ⟨k + 1, by omega, by go_num, by rw [HP.out], fun j hj => ?_⟩
          rcases Nat.lt_or_ge j k with h | h
          · exact hpre.out j h
          · obtain rfl : j = k := by omega
            rw [HZ.out]; exact HQ.out
        case measure => first | (simp [intOf]; done) | (simp [intOf]; omega)
    · obtain rfl : k = n := by omega
      have hE : Hid (sumR zs k = (psum zs k, true)) := by
        unfold Hid
        rw [sumR, okL_t (by rw [HL.out]; exact hpre.out)]; rfl
      obtain ⟨rfl, rfl⟩ := pairB (HR.out.symm.trans hE.out)
      go_wp2
      go_ret2
      exact ⟨rfl, rfl⟩
set_option maxHeartbeats 1000000 in
theorem l04Sum_any (A : Option Addr) (n c : Nat) (zs : List Int) (w : World) (hs : Sl w w.heap.size 1 A n (zs.map (Value.int .i64))) (hn : n ≤ 1048576) (s : Int) (hr : sumS zs n = s) :
    Calls Try.prog 40 #[.slice A n c] w fun e w' => e = .returned (.int .i64 s) ∧ w = w' := by
  have HL := Lib.hid hs.ints
  have HR := Lib.hid hr
  clear hr
  go_enter Try.func40, Try.ntmps40
  go_wp2
  go_loop [3, 4] (fun l i => ∃ k : Nat, k ≤ n ∧ i = .int .i64 k ∧ l = .int .i64 (psum zs k) ∧ Hid (∀ j, j < k → inB (zs.getD j 0) 0 96 = true)) (fun _ i => n - (intOf i).toNat)
  case atStart => exact ⟨0, Nat.zero_le _, rfl, rfl, fun j hj => absurd hj (by omega)⟩
  case round =>
    obtain ⟨k, hk, rfl, rfl, hpre⟩ := hrel
    obtain ⟨p1, p2⟩ := psum_bd hpre.out
    by_cases hlt : k < n
    · obtain ⟨b, off, z, rfl, hb, HZ, hc⟩ := hs.int hlt
      have HP : Hid (psum zs (k + 1) = psum zs k + z) := by unfold Hid; rw [psum, HZ.out]
      revert p1 p2 HP
      generalize psum zs k = u
      intro p1 p2 HP
      cases q : inB z 0 96
      case false =>
        have hE : Hid (sumS zs n = -1) := by
          have h5 : okL zs = false := all_false (by rw [HL.out]; exact hlt) (by rw [HZ.out]; exact q)
          unfold Hid
          rw [sumS, h5]; rfl
        obtain rfl := HR.out.symm.trans hE.out
        go_wp2_with (go_at_call 27; refine (l00In_any _ _ _ _).mono ?_; rintro e w_ ⟨rfl, rfl⟩)
        go_ret
        exact ⟨rfl, rfl⟩
      case true =>
        have HQ := Lib.hid q
        obtain ⟨z1, z2⟩ := inB_of q
        go_wp2_with (go_at_call 27; refine (l00In_any _ _ _ _).mono ?_; rintro e w_ ⟨rfl, rfl⟩)
        go_round
        case rel =>
          refine ⟨k + 1, by omega, by go_num, by rw [HP.out], fun j hj => ?_⟩
          rcases Nat.lt_or_ge j k with h | h
          · exact hpre.out j h
          · obtain rfl : j = k := by omega
            rw [HZ.out]; exact HQ.out
        case measure => first | (simp [intOf]; done) | (simp [intOf]; omega)
    · obtain rfl : k = n := by omega
      have hO : Hid (okL zs = true) := okL_t (by rw [HL.out]; exact hpre.out)
      by_cases h96 : psum zs k ≤ 96
      · have hE : Hid (sumS zs k = psum zs k) := by unfold Hid; rw [sumS, hO.out, decide_eq_true h96]; rfl
        obtain rfl := HR.out.symm.trans hE.out
        go_wp2
        go_ret
        exact ⟨rfl, rfl⟩
      · have hE : Hid (sumS zs k = -1) := by unfold Hid; rw [sumS, decide_eq_false h96, Bool.and_false]; rfl
        obtain rfl := HR.out.symm.trans hE.out
        go_wp2
        go_ret
        exact ⟨rfl, rfl⟩
theorem isPlayer_any (n : Int) (w : World) : Calls Try.prog 28 #[.int .i64 n] w fun e w' => e = .returned (.bool (inB n 0 1)) ∧ w = w' := by
  have hE : Hid (inB n 0 1 = (n == 0 || n == 1)) := by
    unfold Hid
    rw [Bool.eq_iff_iff]
    simp [inB]
    omega
  go_enter Try.func28, Try.ntmps28
  go_wp2
  all_goals
    go_ret
    exact ⟨by rw [hE.out]; first | rfl | simp [*], rfl⟩
end Go.Proofs.Ytcfbihponecblaa
