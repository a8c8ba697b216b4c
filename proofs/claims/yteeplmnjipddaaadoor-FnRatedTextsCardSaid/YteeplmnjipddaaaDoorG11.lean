/- ReadRated: both functions, and the law. Conditions: the table of powers as it is laid. -/
import Derived.Test.YteeplmnjipddaaaDoorG10
import Derived.Test.YteeplmnjipddaaaDoorG05
import Derived.Test.YteeplmnjipddaaaDoorG06
namespace Go.Proofs.YteeplmnjipddaaaDoor
set_option linter.unusedSimpArgs false
set_option linter.unusedVariables false
open Go.RowKit Go.WideShapes Go.ChangeShapes

def rd2 (a b : Int × Bool) : Int × Int × Bool := if a.2 && b.2 && validB a.1 b.1 then (a.1, b.1, true) else (0, 0, false)
def rdR (l : List UInt8) : Int × Int × Bool := match splitL 47 l with
  | [x, y] => rd2 (numR ⟨x.toArray⟩) (numR ⟨y.toArray⟩)
  | _ => (0, 0, false)
theorem numR_mem {r : List UInt8} {c : UInt8} (h : c ∈ r) (h1 : c ≠ 45) (h2 : dgt c = false) : numR ⟨r.toArray⟩ = (0, false) := by
  have e : (⟨r.toArray⟩ : ByteArray).data.toList = r := by simp
  rw [numR, e]
  refine numL_bad (c := c) ?_ h2
  cases r with
  | nil => simp at h
  | cons x r =>
    rw [bodyL]
    split
    · rename_i hx
      rcases List.mem_cons.1 h with rfl | h
      · exact absurd hx h1
      · exact h
    · exact h
theorem dgt47 : dgt 47 = false := by decide
/-- What the program's function makes of the two parts. -/
theorem rdR_cut {l : List UInt8} {f r : ByteArray} {b : Bool} (hc : cutB 47 ⟨l.toArray⟩ = (f, r, b)) : rdR l = if b && (numR f).2 && (numR r).2 && validB (numR f).1 (numR r).1 then ((numR f).1, (numR r).1, true) else (0, 0, false) := by
  have e : (⟨l.toArray⟩ : ByteArray).data.toList = l := by simp
  rw [cutB, e] at hc
  rcases cut_cases 47 l with ⟨a, t, rfl, ha, h1, h2⟩ | ⟨ha, h1, h2⟩
  · rw [h1] at hc
    injection hc with e1 e2
    injection e2 with e2 e3
    subst e1 e2 e3
    by_cases h3 : ∀ x ∈ t, x ≠ 47
    · rw [rdR, h2, splitL_none h3]
      simp only [rd2, Bool.true_and]
    · obtain ⟨x, hx, rfl⟩ : ∃ x, x ∈ t ∧ x = 47 := by
        apply Classical.byContradiction
        intro hn
        exact h3 (fun x hx h => hn ⟨x, hx, h⟩)
      rw [numR_mem hx (by decide) dgt47]
      rcases cut_cases 47 t with ⟨a2, t2, rfl, _, _, h4⟩ | ⟨h5, _, _⟩
      · have hne : splitL 47 t2 ≠ [] := by
          rcases cut_cases 47 t2 with ⟨_, _, _, _, _, h6⟩ | ⟨_, _, h6⟩ <;> rw [h6] <;> simp
        rw [rdR, h2, h4]
        cases h7 : splitL 47 t2 with
        | nil => exact absurd h7 hne
        | cons y ys => simp
      · exact absurd rfl (h5 _ hx)
  · rw [h1] at hc
    injection hc with e1 e2
    injection e2 with e2 e3
    subst e1 e2 e3
    rw [rdR, h2]
    simp
theorem tup_r {a a' b b' : Int} {q q' : Bool} (h : (a, b, q) = (a', b', q')) : Ending.returned (.tuple #[.agg #[.int .i64 a, .int .i64 b], .bool q]) = .returned (.tuple #[.agg #[.int .i64 a', .int .i64 b'], .bool q']) := by
  injection h with h1 h2
  injection h2 with h2 h3
  rw [h1, h2, h3]
def ZR : Array Value := #[.int .i64 0, .int .i64 0]
theorem cut_len (c : UInt8) (s : ByteArray) : (cutB c s).1.size ≤ s.size ∧ (cutB c s).2.1.size ≤ s.size := by
  have hz := ba_len s
  rw [cutB]
  rcases cut_cases c s.data.toList with ⟨a, t, e, _, h1, _⟩ | ⟨_, h1, _⟩
  · rw [e, List.length_append, List.length_cons] at hz
    rw [h1]
    exact ⟨by show a.toArray.size ≤ _; simp; omega, by show t.toArray.size ≤ _; simp; omega⟩
  · rw [h1]
    exact ⟨by show s.data.toList.toArray.size ≤ _; simp; (first | done | exact Nat.le_refl _), by show (#[] : Array UInt8).size ≤ _; simp⟩
theorem split_mem (c : UInt8) (l : List UInt8) : ∀ x ∈ splitL c l, x.length ≤ l.length := by
  induction l with
  | nil => intro x hx; simp [splitL] at hx; subst hx; simp
  | cons y l ih =>
    intro x hx
    rw [splitL] at hx
    split at hx
    · rcases List.mem_cons.1 hx with rfl | hx
      · simp
      · have := ih x hx; simp; omega
    · split at hx
      · rw [List.mem_singleton.1 hx]; simp
      · rename_i h t e
        rw [e] at ih
        rcases List.mem_cons.1 hx with rfl | hx
        · have := ih h (List.mem_cons_self); simp; omega
        · have := ih x (List.mem_cons_of_mem _ hx); simp; omega
set_option maxRecDepth 4000 in
set_option maxHeartbeats 4000000 in
theorem ReadRated_any (s : ByteArray) (n1 n2 : Int) (ok : Bool) (h : rdR s.data.toList = (n1, n2, ok)) (hs : s.size ≤ 1048576) (w : World) (ht : TabW w) :
    Calls Tryd.prog 7 #[.string s] w fun e w' => e = .returned (.tuple #[.agg #[.int .i64 n1, .int .i64 n2], .bool ok]) ∧ Below w.heap.size w w' := by
  obtain ⟨f, r, b, hc⟩ : ∃ f r b, cutB 47 s = (f, r, b) := ⟨_, _, _, rfl⟩
  obtain ⟨x1, o1, h1⟩ : ∃ x o, numR f = (x, o) := ⟨_, _, rfl⟩
  obtain ⟨x2, o2, h2⟩ : ∃ x o, numR r = (x, o) := ⟨_, _, rfl⟩
  have HE : Hid ((if b && o1 && o2 && validB x1 x2 then (x1, x2, true) else ((0 : Int), (0 : Int), false)) = (n1, n2, ok)) := by
    unfold Hid
    rw [ba_self s] at hc
    have h3 := rdR_cut hc
    rw [h1, h2] at h3
    rw [← h, h3]
  have hfl : f.size ≤ s.size ∧ r.size ≤ s.size := by
    have h3 := cut_len 47 s
    rw [hc] at h3
    exact h3
  have HC := Lib.hid hc
  have H1 := Lib.hid h1
  have H2 := Lib.hid h2
  clear hc h1 h2 h
  have K0 := Lib.hid (Blk.new w 25 #[.int .i64 0, .int .i64 0])
  go_enter Tryd.func7, Tryd.ntmps7
  go_wp2_with fail
  refine (cut_any 47 s _ f r b rfl HC.out hs _).mono ?_
  rintro e w1 ⟨rfl, hb1⟩
  have B1 := Lib.hid (Below.via hb1 (Below.alloc (Below.refl _ _) (Nat.le_refl _) _) (by simp))
  have K1 := Lib.hid (K0.out.later hb1)
  clear hb1
  go_wp2_with fail
  refine (ReadDecimal_any f x1 o1 H1.out (by omega) _ (ht.later B1.out)).mono ?_
  rintro e w2 ⟨rfl, hb2⟩
  have B2 := Lib.hid (Below.via hb2 B1.out B1.out.size)
  have K2 := Lib.hid (K1.out.later hb2)
  clear hb2
  go_wp2_with fail
  refine (ReadDecimal_any r x2 o2 H2.out (by omega) _ (ht.later B2.out)).mono ?_
  rintro e w3 ⟨rfl, hb3⟩
  have B3 := Lib.hid (Below.via hb3 B2.out B2.out.size)
  have K3 := Lib.hid (K2.out.later hb3)
  clear hb3 hfl
  obtain ⟨v, hv⟩ : ∃ v, validB x1 x2 = v := ⟨_, rfl⟩
  have HV := Lib.hid hv
  rw [hv] at HE
  clear hv
  have z3 := B3.out.size
  have l3 := K3.out.lt
  have AL : Hid (∀ W : World, Below (w3.alloc (.cells #[.int .i64 x1, .int .i64 x2] 25)).heap.size (w3.alloc (.cells #[.int .i64 x1, .int .i64 x2] 25)) W → (W.cell? ⟨w3.heap.size, 0, none⟩ = some (.int .i64 x1) ∧ W.cell? ⟨w3.heap.size, 1, none⟩ = some (.int .i64 x2)) ∧ (W.cell? ⟨w.heap.size, 0, none⟩ = some (.int .i64 0) ∧ W.cell? ⟨w.heap.size, 1, none⟩ = some (.int .i64 0)) ∧ (W.frozen? ⟨w.heap.size, 0, none⟩ = false ∧ W.frozen? ⟨w.heap.size, 1, none⟩ = false) ∧ Hid (Below w.heap.size w W)) := by
    intro W hb
    have X := (Blk.new w3 25 #[.int .i64 x1, .int .i64 x2]).later hb
    have K := (K3.out.later (Below.alloc (Below.refl _ _) (Nat.le_refl _) (.cells #[.int .i64 x1, .int .i64 x2] 25))).later hb
    exact ⟨⟨X.cell 0, X.cell 1⟩, ⟨K.cell 0, K.cell 1⟩, ⟨K.free 0, K.free 1⟩, Below.via hb (Below.alloc B3.out z3 (.cells #[.int .i64 x1, .int .i64 x2] 25)) (by simp; omega)⟩
  go_upto_region 5 with fail
  cases b <;> cases o1 <;> cases o2 <;> cases v
  all_goals
    try (have HE2 : Hid ((x1, x2, true) = (n1, n2, ok)) := HE.out)
    try (have HE2 : Hid (((0 : Int), (0 : Int), false) = (n1, n2, ok)) := HE.out)
    obtain ⟨w4, hw4⟩ : ∃ w4, w4 = (w3.alloc (.cells #[.int .i64 x1, .int .i64 x2] 25)) := ⟨_, rfl⟩
    have HB4 : Hid (Below (w3.alloc (.cells #[.int .i64 x1, .int .i64 x2] 25)).heap.size (w3.alloc (.cells #[.int .i64 x1, .int .i64 x2] 25)) w4) := by unfold Hid; rw [hw4]; exact Below.refl _ _
    obtain ⟨⟨hx0, hx1⟩, ⟨k0, k1⟩, ⟨f0, f1⟩, BB⟩ := AL.out w4 HB4.out
    rw [← hw4]
    clear hw4
    go_wp2_with (go_at_call 15; (with_reducible refine Calls.mono (ValidRated_any x1 x2 _) ?_); rw [HV.out]; rintro e w5 ⟨rfl, hb5⟩; obtain ⟨⟨hx0, hx1⟩, ⟨k0, k1⟩, ⟨f0, f1⟩, BB⟩ := AL.out w5 (Below.via hb5 HB4.out HB4.out.size))
    all_goals
      (try simp only [Exit.inBlock, Exit.then])
      refine bodyPost_ret (by simp [results, Tryd.results7, go_sem, k0, k1, f0, f1]; try rfl) rfl ?_
      exact ⟨tup_r HE2.out, by have := BB.out; (repeat' (first | (with_reducible exact Below.refl _ _) | (with_reducible assumption) | (with_reducible refine Below.alloc ?_ ?_ _) | (with_reducible refine Below.drew ?_) | (with_reducible refine belowDrewN ?_ _) | (with_reducible refine Below.setCell ?_ ?_ _) | (with_reducible refine Below.via (by with_reducible assumption) ?_ ?_) | (with_reducible refine Below.viaD (by with_reducible assumption) ?_ ?_) | (with_reducible exact Below.size (by with_reducible assumption)) | go_size | (with_reducible refine Nat.le_trans ?_ (Below.size (by with_reducible assumption))) | (with_reducible refine Nat.le_trans ?_ (sizeAlloc _ _)) | (with_reducible refine Nat.le_trans ?_ (sizeSet _ _ _)) | (with_reducible refine Nat.le_trans ?_ (sizeDrew _))))⟩
set_option maxRecDepth 4000 in
set_option maxHeartbeats 4000000 in
theorem sReadRated_any (s : ByteArray) (n1 n2 : Int) (ok : Bool) (h : rdR s.data.toList = (n1, n2, ok)) (hs : s.size ≤ 1048576) (w : World) :
    Calls Tryd.prog 9 #[.string s] w fun e w' => e = .returned (.tuple #[.agg #[.int .i64 n1, .int .i64 n2], .bool ok]) ∧ Below w.heap.size w w' := by
  obtain ⟨P, hP⟩ : ∃ P, splitL 47 s.data.toList = P := ⟨_, rfl⟩
  have HP := Lib.hid hP
  have hPl : P.length ≤ 1048577 := by
    have h3 := split_len 47 s.data.toList
    rw [hP, ba_len] at h3
    omega
  have hPm := split_mem 47 s.data.toList
  rw [hP, ba_len] at hPm
  have K0 := Lib.hid (Blk.new w 25 #[.int .i64 0, .int .i64 0])
  by_cases hl : P.length = 2
  case neg =>
    have HE : Hid (((0 : Int), (0 : Int), false) = (n1, n2, ok)) := by
      unfold Hid
      rw [← h, rdR, hP]
      split
      · rename_i x y
        exact absurd rfl hl
      · rfl
    have hl2 : ((P.length : Int) != 2) = true := by rw [bne_iff_ne]; omega
    clear hP h hPm
    go_enter Tryd.func9, Tryd.ntmps9
    go_wp2_with fail
    refine (l01Split_any 47 47 s rfl hs _).mono ?_
    rw [HP.out]
    rintro e w1 ⟨A, g, cap, rfl, hg, ho, hb1⟩
    have B1 := Lib.hid (Below.via hb1 (Below.alloc (Below.refl _ _) (Nat.le_refl _) _) (by simp))
    have K1 := Lib.hid (K0.out.later hb1)
    have k0 := K1.out.cell 0
    have k1 := K1.out.cell 1
    have f0 := K1.out.free 0
    have f1 := K1.out.free 1
    clear hb1 ho
    go_wp2_with fail
    all_goals
      (try simp only [Exit.inBlock, Exit.then])
      refine bodyPost_ret (by simp [results, Tryd.results9, go_sem, k0, k1, f0, f1]; try rfl) rfl ?_
      exact ⟨tup_r HE.out, by have := B1.out; (repeat' (first | (with_reducible exact Below.refl _ _) | (with_reducible assumption) | (with_reducible refine Below.alloc ?_ ?_ _) | (with_reducible refine Below.drew ?_) | (with_reducible refine belowDrewN ?_ _) | (with_reducible refine Below.setCell ?_ ?_ _) | (with_reducible refine Below.via (by with_reducible assumption) ?_ ?_) | (with_reducible refine Below.viaD (by with_reducible assumption) ?_ ?_) | (with_reducible exact Below.size (by with_reducible assumption)) | go_size | (with_reducible refine Nat.le_trans ?_ (Below.size (by with_reducible assumption))) | (with_reducible refine Nat.le_trans ?_ (sizeAlloc _ _)) | (with_reducible refine Nat.le_trans ?_ (sizeSet _ _ _)) | (with_reducible refine Nat.le_trans ?_ (sizeDrew _))))⟩
  case pos =>
  obtain ⟨p1, p2, rfl⟩ : ∃ a b, P = [a, b] := list2 hl
  obtain ⟨f, hf⟩ : ∃ f : ByteArray, ⟨p1.toArray⟩ = f := ⟨_, rfl⟩
  obtain ⟨r, hr⟩ : ∃ f : ByteArray, ⟨p2.toArray⟩ = f := ⟨_, rfl⟩
  obtain ⟨x1, o1, h1⟩ : ∃ x o, numR f = (x, o) := ⟨_, _, rfl⟩
  obtain ⟨x2, o2, h2⟩ : ∃ x o, numR r = (x, o) := ⟨_, _, rfl⟩
  have HE : Hid ((if o1 && o2 && validB x1 x2 then (x1, x2, true) else ((0 : Int), (0 : Int), false)) = (n1, n2, ok)) := by
    unfold Hid
    rw [← h, rdR, hP]
    show _ = rd2 (numR ⟨p1.toArray⟩) (numR ⟨p2.toArray⟩)
    rw [hf, hr, h1, h2, rd2]
  have hfl : f.size ≤ s.size ∧ r.size ≤ s.size := by
    have e1 := hPm p1 (by simp)
    have e2 := hPm p2 (by simp)
    rw [← hf, ← hr]
    exact ⟨by show p1.toArray.size ≤ _; simpa using e1, by show p2.toArray.size ≤ _; simpa using e2⟩
  have HF1 : Hid (strV p1 = .string f) := by unfold Hid strV; rw [hf]
  have HF2 : Hid (strV p2 = .string r) := by unfold Hid strV; rw [hr]
  have H1 := Lib.hid h1
  have H2 := Lib.hid h2
  clear h1 h2 h hf hr hP hPm hPl hl
  go_enter Tryd.func9, Tryd.ntmps9
  go_wp2_with fail
  refine (l01Split_any 47 47 s rfl hs _).mono ?_
  rw [HP.out]
  rintro e w1 ⟨A, g, cap, rfl, hg, ho, hb1⟩
  have B1 := Lib.hid (Below.via hb1 (Below.alloc (Below.refl _ _) (Nat.le_refl _) _) (by simp))
  have K1 := Lib.hid (K0.out.later hb1)
  obtain ⟨rfl, rest, hblk⟩ := ho.blk (by simp)
  have KP := Lib.hid hblk
  have c0 := KP.out.cell 0
  have c1 := KP.out.cell 1
  simp only [List.map_cons, List.map_nil, HF1.out, HF2.out] at c0 c1
  have hg1 := hblk.lt
  clear hb1 ho hblk
  go_wp2_with fail
  refine (l01Number_any f x1 o1 H1.out (by omega) _).mono ?_
  rintro e w2 ⟨rfl, hb2⟩
  have B2 := Lib.hid (Below.via hb2 B1.out B1.out.size)
  have K2 := Lib.hid (K1.out.later hb2)
  have c1' := (hb2.cell (p := ⟨g, 1, none⟩) hg1).trans c1
  clear hb2 c0 c1
  go_wp2_with fail
  refine (l01Number_any r x2 o2 H2.out (by omega) _).mono ?_
  rintro e w3 ⟨rfl, hb3⟩
  have B3 := Lib.hid (Below.via hb3 B2.out B2.out.size)
  have K3 := Lib.hid (K2.out.later hb3)
  clear hb3 hfl c1' hg1
  obtain ⟨v, hv⟩ : ∃ v, validB x1 x2 = v := ⟨_, rfl⟩
  have HV := Lib.hid hv
  rw [hv] at HE
  clear hv
  have z3 := B3.out.size
  have l3 := K3.out.lt
  have AL : Hid (∀ W : World, Below (w3.alloc (.cells #[.int .i64 x1, .int .i64 x2] 25)).heap.size (w3.alloc (.cells #[.int .i64 x1, .int .i64 x2] 25)) W → (W.cell? ⟨w3.heap.size, 0, none⟩ = some (.int .i64 x1) ∧ W.cell? ⟨w3.heap.size, 1, none⟩ = some (.int .i64 x2)) ∧ (W.cell? ⟨w.heap.size, 0, none⟩ = some (.int .i64 0) ∧ W.cell? ⟨w.heap.size, 1, none⟩ = some (.int .i64 0)) ∧ (W.frozen? ⟨w.heap.size, 0, none⟩ = false ∧ W.frozen? ⟨w.heap.size, 1, none⟩ = false) ∧ Hid (Below w.heap.size w W)) := by
    intro W hb
    have X := (Blk.new w3 25 #[.int .i64 x1, .int .i64 x2]).later hb
    have K := (K3.out.later (Below.alloc (Below.refl _ _) (Nat.le_refl _) (.cells #[.int .i64 x1, .int .i64 x2] 25))).later hb
    exact ⟨⟨X.cell 0, X.cell 1⟩, ⟨K.cell 0, K.cell 1⟩, ⟨K.free 0, K.free 1⟩, Below.via hb (Below.alloc B3.out z3 (.cells #[.int .i64 x1, .int .i64 x2] 25)) (by simp; omega)⟩
  go_upto_region 7 with fail
  cases o1 <;> cases o2 <;> cases v
  all_goals
    try (have HE2 : Hid ((x1, x2, true) = (n1, n2, ok)) := HE.out)
    try (have HE2 : Hid (((0 : Int), (0 : Int), false) = (n1, n2, ok)) := HE.out)
    obtain ⟨w4, hw4⟩ : ∃ w4, w4 = (w3.alloc (.cells #[.int .i64 x1, .int .i64 x2] 25)) := ⟨_, rfl⟩
    have HB4 : Hid (Below (w3.alloc (.cells #[.int .i64 x1, .int .i64 x2] 25)).heap.size (w3.alloc (.cells #[.int .i64 x1, .int .i64 x2] 25)) w4) := by unfold Hid; rw [hw4]; exact Below.refl _ _
    obtain ⟨⟨hx0, hx1⟩, ⟨k0, k1⟩, ⟨f0, f1⟩, BB⟩ := AL.out w4 HB4.out
    rw [← hw4]
    clear hw4
    go_wp2_with (go_at_call 26; (with_reducible refine Calls.mono (l25Ok_any x1 x2 _) ?_); rw [HV.out]; rintro e w5 ⟨rfl, hb5⟩; obtain ⟨⟨hx0, hx1⟩, ⟨k0, k1⟩, ⟨f0, f1⟩, BB⟩ := AL.out w5 (Below.via hb5 HB4.out HB4.out.size))
    all_goals
      (try simp only [Exit.inBlock, Exit.then])
      refine bodyPost_ret (by simp [results, Tryd.results9, go_sem, k0, k1, f0, f1]; try rfl) rfl ?_
      exact ⟨tup_r HE2.out, by have := BB.out; (repeat' (first | (with_reducible exact Below.refl _ _) | (with_reducible assumption) | (with_reducible refine Below.alloc ?_ ?_ _) | (with_reducible refine Below.drew ?_) | (with_reducible refine belowDrewN ?_ _) | (with_reducible refine Below.setCell ?_ ?_ _) | (with_reducible refine Below.via (by with_reducible assumption) ?_ ?_) | (with_reducible refine Below.viaD (by with_reducible assumption) ?_ ?_) | (with_reducible exact Below.size (by with_reducible assumption)) | go_size | (with_reducible refine Nat.le_trans ?_ (Below.size (by with_reducible assumption))) | (with_reducible refine Nat.le_trans ?_ (sizeAlloc _ _)) | (with_reducible refine Nat.le_trans ?_ (sizeSet _ _ _)) | (with_reducible refine Nat.le_trans ?_ (sizeDrew _))))⟩
end Go.Proofs.YteeplmnjipddaaaDoor
