/- Pairings: lists without two players. Conditions: at most 12 players. -/
import Derived.Test.YteeplmnjipddaaaWays1
import Derived.Deep.RegionHeld3
namespace Go.Proofs.Yteeplmnjipddaaa
set_option linter.unusedSimpArgs false
set_option linter.unusedVariables false
open Go.RowKit Go.WideShapes

/-- Both parts of a list without two players. -/
theorem witho_parts {zs : List Int} {n k : Nat} (hl : zs.length = n) (h1 : 1 ≤ k) (hk : k < n) : ∃ l1 l2 : List Int, (zs.drop 1).take (k - 1) = l1 ∧ (zs.drop (k + 1)).take (n - (k + 1)) = l2 ∧ witho zs k = l1 ++ l2 ∧ l1.length = k - 1 ∧ l2.length = n - (k + 1) := by
  refine ⟨_, _, rfl, rfl, ?_, ?_, ?_⟩
  · rw [witho]
    congr 1
    rw [List.take_of_length_le]
    rw [List.length_drop]; omega
  · rw [List.length_take, List.length_drop]; omega
  · rw [List.length_take, List.length_drop]; omega
theorem one_cells (l : List Int) : ∀ u ∈ l.map (Value.int .i64), u.oneCell' = true := by
  intro u hu
  rw [List.mem_map] at hu
  obtain ⟨b, _, rfl⟩ := hu
  rfl
/-- Each part is a slice. -/
def Part (w : World) (c n l k : Nat) (A : Option Addr) (zs : List Int) : Prop := ∀ A', (c ≠ l → A' = A.map (fun a => a.add l)) → Sl w w.heap.size 1 A' (k - l) (zs.map (Value.int .i64))
theorem Part.later {w w' : World} {c n l k : Nat} {A : Option Addr} {zs : List Int} (h : Part w c n l k A zs) (hb : Below w.heap.size w w') : Part w' c n l k A zs := fun A' hA => (h A' hA).later hb
theorem Part.drew {w : World} {c n l k : Nat} {A : Option Addr} {zs : List Int} (h : Part w c n l k A zs) : Part w.drew c n l k A zs := fun A' hA => (h A' hA).drew
set_option maxRecDepth 10000 in
set_option maxHeartbeats 1000000 in
theorem l24Without_any (A : Option Addr) (n c k : Nat) (zs : List Int) (w : World) (hs : Sl w w.heap.size 1 A n (zs.map (Value.int .i64))) (hn : n ≤ 12) (hnc : n ≤ c) (hc : c ≤ maxLen) (h1 : 1 ≤ k) (hk : k < n) :
    Calls Try.prog 70 #[.slice A n c, .int .i64 (k : Nat)] w (RowV Try.prog (witho zs k) (n - 2) w) := by
  obtain ⟨i0, ti, tz0, tz1, tz2⟩ := info_parts info_i64w
  obtain ⟨l1, l2, e1, e2, e3, hl1, hl2⟩ := witho_parts hs.ints h1 hk
  have P1 : Hid (Part w c n 1 k A l1) := fun A' hA => by rw [← e1]; exact hs.partw h1 (by omega) hnc hA
  have P2 : Hid (Part w c n (k + 1) n A l2) := fun A' hA => by rw [← e2]; exact hs.partw (by omega) (Nat.le_refl _) hnc hA
  have E3 := Lib.hid e3
  have g1 : (1 : Int) ≤ (k : Int) := by omega
  have g2 : (k : Int) ≤ (c : Int) := by omega
  have g3 : (k : Int) + 1 ≤ (n : Int) := by omega
  have g4 : (0 : Int) ≤ (k : Int) + 1 := by omega
  have g5 : IntKind.i64.wrap ((k : Int) + 1) = (k : Int) + 1 := IntWalk.i64_in _ (by omega)
  have HCK : (c = k + 1) = True ∨ (c = k + 1) = False := by
    by_cases h : c = k + 1
    · exact Or.inl (eq_true h)
    · exact Or.inr (eq_false h)
  clear hs e1 e2 e3
  rcases HCK with hck | hck
  all_goals
    go_enter Try.func70, Try.ntmps70
    go_wp2_with (at_builtin; refine wpList_append_sl _ rfl _ _ 24 rfl w.heap.size 2 i0 _ 1 8 Try.underlying24 ti tz0 tz1 tz2 rfl (by decide) _ 0 [] rfl (World.ownsRow_made _ _ 0 (Nat.le_refl _) (Nat.zero_le _) rfl) w.heap.size _ (k - 1) (c - 1) (l1.map (Value.int .i64)) rfl ((P1.out _ (fun _ => by simp [Addr.add])).below (Below.alloc (Below.refl _ _) (Nat.le_refl _) _)) ?c1 ?c2 ?c3 ?c4 ?_)
    case c1 => exact one_cells l1
    case c2 => unfold maxLen; omega
    case c3 => omega
    case c4 => simp
    intro v' w3 hown3 hg3 _
    have hbn : Below w.heap.size w w3 := below_app (by (repeat' (first | (with_reducible exact Below.refl _ _) | (with_reducible assumption) | (with_reducible refine Below.alloc ?_ ?_ _) | (with_reducible refine Below.drew ?_) | (with_reducible refine belowDrewN ?_ _) | (with_reducible refine Below.setCell ?_ ?_ _) | (with_reducible refine Below.via (by with_reducible assumption) ?_ ?_) | (with_reducible refine Below.viaD (by with_reducible assumption) ?_ ?_) | (with_reducible exact Below.size (by with_reducible assumption)) | go_size | (with_reducible refine Nat.le_trans ?_ (Below.size (by with_reducible assumption))) | (with_reducible refine Nat.le_trans ?_ (sizeAlloc _ _)) | (with_reducible refine Nat.le_trans ?_ (sizeSet _ _ _)) | (with_reducible refine Nat.le_trans ?_ (sizeDrew _))))) (World.ownsRow_made (e := 2) (size := 1) _ _ 0 (Nat.le_refl _) (Nat.zero_le _) rfl) hg3 (Nat.le_refl _) (by simp)
    have HO3 := Lib.hid hown3
    have P3 := Lib.hid (P2.out.later hbn)
    have hz3 := hbn.size
    clear hown3 hg3
    go_wp2_with (at_builtin; refine wpList_append_sl _ rfl _ _ 24 rfl w.heap.size 2 i0 _ 1 8 Try.underlying24 ti tz0 tz1 tz2 rfl (by decide) v' (k - 1) (l1.map (Value.int .i64)) rfl HO3.out w3.heap.size _ (n - (k + 1)) (c - (k + 1)) (l2.map (Value.int .i64)) rfl (P3.out _ (fun h => by first | exact absurd (of_eq_true hck) h | simp [Addr.add, h])) ?c1 ?c2 ?c3 ?c4 ?_)
    case c1 => exact one_cells l2
    case c2 => unfold maxLen; omega
    case c3 => omega
    case c4 => exact hz3
    intro v4 w4 hown4 hg4 _
    have hb4 : Below w.heap.size w w4 := below_app hbn HO3.out hg4 (Nat.le_refl _) hz3
    rw [← List.map_append, ← E3.out, show k - 1 + (n - (k + 1)) = n - 2 by omega] at hown4
    have HO4 := Lib.hid hown4
    clear hown4 hg4
    go_wp2_with fail
    go_ret
    exact ⟨v4, rfl, HO4.out, hb4⟩
set_option maxRecDepth 10000 in
set_option maxHeartbeats 1000000 in
theorem without_any (A : Option Addr) (n c k : Nat) (zs : List Int) (w : World) (hs : Sl w w.heap.size 1 A n (zs.map (Value.int .i64))) (hn : n ≤ 12) (hnc : n ≤ c) (hc : c ≤ maxLen) (h1 : 1 ≤ k) (hk : k < n) :
    Calls Try.prog 64 #[.slice A n c, .int .i64 (k : Nat)] w (RowV Try.prog (witho zs k) (n - 2) w) := by
  obtain ⟨i0, ti, tz0, tz1, tz2⟩ := info_parts info_i64w
  obtain ⟨l1, l2, e1, e2, e3, hl1, hl2⟩ := witho_parts hs.ints h1 hk
  have P1 : Hid (Part w c n 1 k A l1) := fun A' hA => by rw [← e1]; exact hs.partw h1 (by omega) hnc hA
  have P2 : Hid (Part w c n (k + 1) n A l2) := fun A' hA => by rw [← e2]; exact hs.partw (by omega) (Nat.le_refl _) hnc hA
  have E3 := Lib.hid e3
  have g1 : (1 : Int) ≤ (k : Int) := by omega
  have g2 : (k : Int) ≤ (c : Int) := by omega
  have g3 : (k : Int) + 1 ≤ (n : Int) := by omega
  have g4 : (0 : Int) ≤ (k : Int) + 1 := by omega
  have g5 : IntKind.i64.wrap ((k : Int) + 1) = (k : Int) + 1 := IntWalk.i64_in _ (by omega)
  have HCK : (c = k + 1) = True ∨ (c = k + 1) = False := by
    by_cases h : c = k + 1
    · exact Or.inl (eq_true h)
    · exact Or.inr (eq_false h)
  clear hs e1 e2 e3
  rcases HCK with hck | hck
  all_goals
    go_enter Try.func64, Try.ntmps64
    go_wp2_with fail
    go_region_held3 (fun W => 0 ≤ W.heap.size) (exact Nat.zero_le _) (first
      | (go_at_call 45; (with_reducible refine Calls.mono (copyNumbers_row _ (k - 1) (c - 1) l1 _ ?_ ?_) ?_); (refine P1.out.drew _ ?_; intro h; simp [Addr.add, h]); omega; rintro e w3 ⟨v3, rfl, hown3, hb3⟩; have HO3 := Lib.hid hown3; have P3 := Lib.hid (P2.out.drew.later hb3); have hbn : Below w.heap.size w w3 := Below.undrew hb3; have hz3 := hbn.size; clear hown3 hb3)
      | (refine step_append_sl _ rfl _ _ 24 rfl w.heap.size 2 i0 _ 1 8 Try.underlying24 ti tz0 tz1 tz2 rfl (by decide) v3 (k - 1) (l1.map (Value.int .i64)) rfl HO3.out w3.heap.size _ (n - (k + 1)) (c - (k + 1)) (l2.map (Value.int .i64)) rfl ?_ (one_cells l2) ?_ ?_ hz3 ?_; (refine P3.out _ ?_; intro h; first | exact absurd (of_eq_true hck) h | simp [Addr.add, h]); (unfold maxLen; omega); omega; intro v4 w4 hown4 hg4 _))
  all_goals
      have hb4 : Below w.heap.size w w4 := below_app hbn HO3.out hg4 (Nat.le_refl _) hz3
      rw [← List.map_append, ← E3.out, show k - 1 + (n - (k + 1)) = n - 2 by omega] at hown4
      have HO4 := Lib.hid hown4
      clear hown4 hg4
      go_wp2_with fail
      go_ret
      exact ⟨v4, rfl, HO4.out, hb4⟩
end Go.Proofs.Yteeplmnjipddaaa
