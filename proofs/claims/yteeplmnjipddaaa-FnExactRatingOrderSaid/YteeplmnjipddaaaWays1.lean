/- Pairings: parts of lists, who has met. Conditions: at most 12 players. -/
import Derived.Test.YteeplmnjipddaaaMeet3
import Derived.Test.YteeplmnjipddaaaApp
namespace Go.Proofs.Yteeplmnjipddaaa
set_option linter.unusedSimpArgs false
set_option linter.unusedVariables false
open Go.RowKit Go.WideShapes

theorem info_i64w : (Try.prog.info? 2).map (fun i => (i.zero, i.size, i.bytes)) = some (some (.int .i64 0), 1, 8) := by kernel_rfl
theorem elem_w : Try.prog.elem 24 = 2 := by kernel_rfl
theorem und_w : Try.prog.underlying 24 = some (.slice (Try.prog.elem 24)) := by rw [elem_w]; exact Try.underlying24
/-- A part of a slice of numbers. -/
theorem Sl.partw {w : World} {B n c : Nat} {A A' : Option Addr} {zs : List Int} (h : Sl w B 1 A n (zs.map (Value.int .i64))) {l k : Nat} (hl : l ≤ k) (hk : k ≤ n) (hc : n ≤ c) (hA : c ≠ l → A' = A.map (fun a => a.add l)) : Sl w B 1 A' (k - l) (((zs.drop l).take (k - l)).map (Value.int .i64)) := by
  have hlen := h.ints
  refine ⟨by rw [List.length_map, List.length_take, List.length_drop]; omega, fun hp => ?_⟩
  obtain ⟨b, off, e, hb, hcc⟩ := h.2 (by omega)
  rw [hA (by omega), e]
  refine ⟨b, off + l, by simp [Addr.add], hb, fun j u hu => ?_⟩
  rw [List.getElem?_map, List.getElem?_take] at hu
  split at hu
  · rw [List.getElem?_drop, ← List.getElem?_map] at hu
    have := hcc (l + j) u hu
    rw [← Nat.add_assoc] at this
    exact this
  · simp at hu
/-- Players without the first one and the one at a place. -/
def witho (l : List Int) (k : Nat) : List Int := (l.drop 1).take (k - 1) ++ l.drop (k + 1)
theorem witho_len {l : List Int} {k : Nat} (h : k < l.length) (h1 : 1 ≤ k) : (witho l k).length = l.length - 2 := by
  rw [witho, List.length_append, List.length_take, List.length_drop, List.length_drop]; omega
theorem witho_mem {l : List Int} {k : Nat} {x : Int} (h : x ∈ witho l k) : x ∈ l := by
  rw [witho, List.mem_append] at h
  rcases h with h | h
  · exact List.mem_of_mem_drop (List.mem_of_mem_take h)
  · exact List.mem_of_mem_drop h
/-- A list of the call's own behind a call that only makes memory. -/
def RowV (P : Program) (l : List Int) (n : Nat) (w : World) (e : Ending) (w' : World) : Prop := ∃ v, e = .returned v ∧ w'.ownsRow w.heap.size 2 1 v n (l.map (Value.int .i64)) ∧ Below w.heap.size w w'
set_option maxHeartbeats 1000000 in
theorem copyNumbers_row (A : Option Addr) (n c : Nat) (zs : List Int) (w : World) (hs : Sl w w.heap.size 1 A n (zs.map (Value.int .i64))) (hn : n ≤ 100) :
    Calls Try.prog 45 #[.slice A n c] w (RowV Try.prog zs n w) := by
  obtain ⟨i0, ti, tz0, tz1, tz2⟩ := info_parts info_i64w
  have HS := Lib.hid hs
  clear hs
  go_enter Try.func45, Try.ntmps45
  go_wp2_with (at_builtin; refine wpList_append_sl _ rfl _ _ 24 rfl w.heap.size 2 i0 _ 1 8 Try.underlying24 ti tz0 tz1 tz2 rfl (by decide) _ 0 [] rfl (World.ownsRow_made _ _ 0 (Nat.le_refl _) (Nat.zero_le _) rfl) w.heap.size A n c (zs.map (Value.int .i64)) rfl (HS.out.below (Below.alloc (Below.refl _ _) (Nat.le_refl _) _)) ?c1 ?c2 ?c3 ?c4 ?_)
  case c1 => intro u hu; rw [List.mem_map] at hu; obtain ⟨b, _, rfl⟩ := hu; rfl
  case c2 => unfold maxLen; omega
  case c3 => omega
  case c4 => simp
  intro v' w3 hown3 hg3 _
  have hbn : Below w.heap.size w w3 := below_app (by (repeat' (first | (with_reducible exact Below.refl _ _) | (with_reducible assumption) | (with_reducible refine Below.alloc ?_ ?_ _) | (with_reducible refine Below.drew ?_) | (with_reducible refine belowDrewN ?_ _) | (with_reducible refine Below.setCell ?_ ?_ _) | (with_reducible refine Below.via (by with_reducible assumption) ?_ ?_) | (with_reducible refine Below.viaD (by with_reducible assumption) ?_ ?_) | (with_reducible exact Below.size (by with_reducible assumption)) | go_size | (with_reducible refine Nat.le_trans ?_ (Below.size (by with_reducible assumption))) | (with_reducible refine Nat.le_trans ?_ (sizeAlloc _ _)) | (with_reducible refine Nat.le_trans ?_ (sizeSet _ _ _)) | (with_reducible refine Nat.le_trans ?_ (sizeDrew _))))) (World.ownsRow_made (e := 2) (size := 1) _ _ 0 (Nat.le_refl _) (Nat.zero_le _) rfl) hg3 (Nat.le_refl _) (by simp)
  have HO3 := Lib.hid hown3
  clear hown3 hg3
  go_wp2_with fail
  go_ret
  exact ⟨v', rfl, HO3.out, hbn⟩
set_option maxHeartbeats 1000000 in
theorem l00Own_row (A : Option Addr) (n c : Nat) (zs : List Int) (w : World) (hs : Sl w w.heap.size 1 A n (zs.map (Value.int .i64))) (hn : n ≤ 100) :
    Calls Try.prog 29 #[.slice A n c] w (RowV Try.prog zs n w) := by
  obtain ⟨i0, ti, tz0, tz1, tz2⟩ := info_parts info_i64w
  have HS := Lib.hid hs
  clear hs
  go_enter Try.func29, Try.ntmps29
  go_wp2_with (at_builtin; refine wpList_append_sl _ rfl _ _ 24 rfl w.heap.size 2 i0 _ 1 8 Try.underlying24 ti tz0 tz1 tz2 rfl (by decide) _ 0 [] rfl (World.ownsRow_made _ _ 0 (Nat.le_refl _) (Nat.zero_le _) rfl) w.heap.size A n c (zs.map (Value.int .i64)) rfl (HS.out.below (Below.alloc (Below.refl _ _) (Nat.le_refl _) _)) ?c1 ?c2 ?c3 ?c4 ?_)
  case c1 => intro u hu; rw [List.mem_map] at hu; obtain ⟨b, _, rfl⟩ := hu; rfl
  case c2 => unfold maxLen; omega
  case c3 => omega
  case c4 => simp
  intro v' w3 hown3 hg3 _
  have hbn : Below w.heap.size w w3 := below_app (by (repeat' (first | (with_reducible exact Below.refl _ _) | (with_reducible assumption) | (with_reducible refine Below.alloc ?_ ?_ _) | (with_reducible refine Below.drew ?_) | (with_reducible refine belowDrewN ?_ _) | (with_reducible refine Below.setCell ?_ ?_ _) | (with_reducible refine Below.via (by with_reducible assumption) ?_ ?_) | (with_reducible refine Below.viaD (by with_reducible assumption) ?_ ?_) | (with_reducible exact Below.size (by with_reducible assumption)) | go_size | (with_reducible refine Nat.le_trans ?_ (Below.size (by with_reducible assumption))) | (with_reducible refine Nat.le_trans ?_ (sizeAlloc _ _)) | (with_reducible refine Nat.le_trans ?_ (sizeSet _ _ _)) | (with_reducible refine Nat.le_trans ?_ (sizeDrew _))))) (World.ownsRow_made (e := 2) (size := 1) _ _ 0 (Nat.le_refl _) (Nat.zero_le _) rfl) hg3 (Nat.le_refl _) (by simp)
  have HO3 := Lib.hid hown3
  clear hown3 hg3
  go_wp2_with fail
  go_ret
  exact ⟨v', rfl, HO3.out, hbn⟩
/-- Who has met whom in the first k meetings. -/
def metB (zs : List Int) (a b : Int) : Nat → Bool
  | 0 => false
  | k + 1 => metB zs a b k || ((zs.getD (k * 2) 0 == a && zs.getD (k * 2 + 1) 0 == b) || (zs.getD (k * 2) 0 == b && zs.getD (k * 2 + 1) 0 == a))
theorem metB_mono {zs : List Int} {a b : Int} {k : Nat} : ∀ c, k ≤ c → metB zs a b k = true → metB zs a b c = true
  | 0, h, h2 => by
    obtain rfl : k = 0 := by omega
    exact h2
  | c + 1, h, h2 => by
    by_cases e : k = c + 1
    · subst e
      exact h2
    · rw [metB, metB_mono c (by omega) h2]; rfl
set_option maxHeartbeats 2000000 in
theorem l24Met_any (A : Option Addr) (c cp : Nat) (zs : List Int) (a b : Int) (w : World) (hs : Sl w w.heap.size 2 A c (zs.map (Value.int .i64))) (hc : c ≤ 150) :
    Calls Try.prog 69 #[.slice A c cp, .int .i64 a, .int .i64 b] w fun e w' => e = .returned (.bool (metB zs a b c)) ∧ Below w.heap.size w w' := by
  go_enter Try.func69, Try.ntmps69
  go_wp2
  go_loopw [7] (fun i wr => ∃ k : Nat, k ≤ c ∧ i = .int .i64 k ∧ Hid (metB zs a b k = false) ∧ Below w.heap.size w wr) (fun i _ => c - (intOf i).toNat)
  case atStart => exact ⟨0, Nat.zero_le _, rfl, rfl, Below.refl _ _⟩
  case round =>
    obtain ⟨k, hk, rfl, hpre, hbl⟩ := hrel
    by_cases hlt : k < c
    · obtain ⟨bk, off, rfl, hb, hl, hcc⟩ := (hs.below hbl).cellAt hlt
      obtain ⟨z0, hz0⟩ : ∃ z, zs.getD (k * 2) 0 = z := ⟨_, rfl⟩
      obtain ⟨z1, hz1⟩ : ∃ z, zs.getD (k * 2 + 1) 0 = z := ⟨_, rfl⟩
      have hc0 := hcc 0 (by omega)
      have hc1 := hcc 1 (by omega)
      rw [Nat.add_zero, hz0] at hc0
      rw [hz1, ← Nat.add_assoc] at hc1
      have HM : Hid (metB zs a b (k + 1) = ((z0 == a && z1 == b) || (z0 == b && z1 == a))) := by unfold Hid; rw [metB, hpre.out, hz0, hz1, Bool.false_or]
      clear hcc hl hz0 hz1
      have yes : ((z0 == a && z1 == b) || (z0 == b && z1 == a)) = true → metB zs a b c = true := fun h => metB_mono c hlt (HM.out.trans h)
      have YES := Lib.hid yes
      clear yes
      cases h1 : (z0 == a)
      all_goals cases h2 : (z1 == b)
      all_goals cases h3 : (z0 == b)
      all_goals cases h4 : (z1 == a)
      all_goals
        go_wp2
        first
          | (go_ret; exact ⟨by rw [YES.out (by rw [h1, h2, h3, h4]; rfl)]; rfl, by (repeat' (first | (with_reducible exact Below.refl _ _) | (with_reducible assumption) | (with_reducible refine Below.alloc ?_ ?_ _) | (with_reducible refine Below.drew ?_) | (with_reducible refine belowDrewN ?_ _) | (with_reducible refine Below.setCell ?_ ?_ _) | (with_reducible refine Below.via (by with_reducible assumption) ?_ ?_) | (with_reducible refine Below.viaD (by with_reducible assumption) ?_ ?_) | (with_reducible exact Below.size (by with_reducible assumption)) | go_size | (with_reducible refine Nat.le_trans ?_ (Below.size (by with_reducible assumption))) | (with_reducible refine Nat.le_trans ?_ (sizeAlloc _ _)) | (with_reducible refine Nat.le_trans ?_ (sizeSet _ _ _)) | (with_reducible refine Nat.le_trans ?_ (sizeDrew _))))⟩)
          | (go_roundw
             case rel => exact ⟨k + 1, by omega, by go_num, Lib.hid (HM.out.trans (by rw [h1, h2, h3, h4]; rfl)), by (repeat' (first | (with_reducible exact Below.refl _ _) | (with_reducible assumption) | (with_reducible refine Below.alloc ?_ ?_ _) | (with_reducible refine Below.drew ?_) | (with_reducible refine belowDrewN ?_ _) | (with_reducible refine Below.setCell ?_ ?_ _) | (with_reducible refine Below.via (by with_reducible assumption) ?_ ?_) | (with_reducible refine Below.viaD (by with_reducible assumption) ?_ ?_) | (with_reducible exact Below.size (by with_reducible assumption)) | go_size | (with_reducible refine Nat.le_trans ?_ (Below.size (by with_reducible assumption))) | (with_reducible refine Nat.le_trans ?_ (sizeAlloc _ _)) | (with_reducible refine Nat.le_trans ?_ (sizeSet _ _ _)) | (with_reducible refine Nat.le_trans ?_ (sizeDrew _))))⟩
             case measure => first | (simp [intOf]; done) | (simp [intOf]; omega))
    · obtain rfl : k = c := by omega
      go_wp2
      go_ret
      exact ⟨by rw [hpre.out]; rfl, by (repeat' (first | (with_reducible exact Below.refl _ _) | (with_reducible assumption) | (with_reducible refine Below.alloc ?_ ?_ _) | (with_reducible refine Below.drew ?_) | (with_reducible refine belowDrewN ?_ _) | (with_reducible refine Below.setCell ?_ ?_ _) | (with_reducible refine Below.via (by with_reducible assumption) ?_ ?_) | (with_reducible refine Below.viaD (by with_reducible assumption) ?_ ?_) | (with_reducible exact Below.size (by with_reducible assumption)) | go_size | (with_reducible refine Nat.le_trans ?_ (Below.size (by with_reducible assumption))) | (with_reducible refine Nat.le_trans ?_ (sizeAlloc _ _)) | (with_reducible refine Nat.le_trans ?_ (sizeSet _ _ _)) | (with_reducible refine Nat.le_trans ?_ (sizeDrew _))))⟩
end Go.Proofs.Yteeplmnjipddaaa
