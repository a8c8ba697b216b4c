/- NewMemory: both functions; slots compared, marked. No conditions. -/
import Derived.Test.YtpcenpedbdenmaaRuOk
import Derived.Test.YtpcenpedbdenmaaFlatV
import Derived.Test.YtpcenpedbdenmaaInt64S
namespace Go.Proofs.Ytpcenpedbdenmaa
set_option linter.unusedSimpArgs false
set_option linter.unusedVariables false
open Go.RowKit

def zeroRu : Ru := ⟨0, 0, false, false, false, false, false, 0, 0⟩
def zC : Array Value := #[.bool false, .slice none 0 0, .int .i64 0, .int .i64 0, .int .i64 0, .int .i64 0]
def zS (p : Nat) : Value := if p % 6 = 0 then .bool false else if p % 6 = 1 then .slice none 0 0 else .int .i64 0
/-- The cells of n empty slots. -/
def zeroS (n : Nat) : List Value := (List.range (n * 6)).map zS
theorem zeroS_at {n p : Nat} (h : p < n * 6) : (zeroS n)[p]? = some (zS p) := by
  rw [zeroS, List.getElem?_map, List.getElem?_range h]; rfl
theorem zS_tab : ∀ f : Fin 6, zC[f.val]? = some (if f.val = 0 then .bool false else if f.val = 1 then .slice none 0 0 else .int .i64 0)
  | ⟨0, _⟩ => rfl
  | ⟨1, _⟩ => rfl
  | ⟨2, _⟩ => rfl
  | ⟨3, _⟩ => rfl
  | ⟨4, _⟩ => rfl
  | ⟨5, _⟩ => rfl
theorem zeroS_made (n : Nat) : madeCells (Value.agg zC).cells (n * 6) = (zeroS n).toArray := by
  apply Array.ext_getElem?
  intro i
  have e : (Value.agg zC).cells = zC := rfl
  rw [e]
  unfold madeCells
  rw [Array.getElem?_map]
  rcases Nat.lt_or_ge i (n * 6) with h | h
  · have h1 := zS_tab ⟨i % 6, Nat.mod_lt _ (by omega)⟩
    have h2 : zC[i % 6]? = some (zS i) := h1
    have hs : zC.size = 6 := rfl
    have h3 : (zeroS n).toArray[i]? = some (zS i) := by rw [List.getElem?_toArray]; exact zeroS_at h
    rw [h3]
    simp [h, hs, h2, Array.getElem!_eq_getD, Array.getD_eq_getD_getElem?]
  · have h3 : (zeroS n).toArray[i]? = none := by rw [List.getElem?_toArray]; exact List.getElem?_eq_none (by simpa [zeroS] using h)
    rw [h3]
    simp [h]
/-- The mark of a cell of the slots. -/
def mkS (k0 : Int) (p : Nat) : Value := if p % 6 = 0 then .bool ((k0 + (p / 6 * 5 : Nat)) % 3 == 0) else if p % 6 = 1 then .slice none 0 0 else .int .i64 (k0 + (p / 6 * 5 + (p % 6 - 1) : Nat))
theorem info_Slot : (Try.prog.info? 81).map (fun i => (i.zero, i.size, i.bytes)) = some (some (.agg zC), 6, 64) := by kernel_rfl
def nmR (r : Ru) (size : Int) : Ru × Nat × Int := if okRu r then (if inB size 1 64 then (r, size.toNat, 0) else (zeroRu, 0, 2)) else (zeroRu, 0, 1)
theorem tripR {a a' : Ru} {b b' : Nat} {c c' : Int} (h : (a', b', c') = (a, b, c)) : a' = a ∧ b' = b ∧ c' = c := by
  injection h with h1 h2
  injection h2 with h2 h3
  exact ⟨h1, h2, h3⟩
def NmPost (r2 : Ru) (n : Nat) (code : Int) (w : World) (e : Ending) (w' : World) : Prop :=
  ∃ (A : Option Addr) (g : Nat), e = .returned (.tuple #[.agg #[.int .i64 r2.p, .int .i64 r2.s, .bool r2.st, .bool r2.sk, .bool r2.re, .bool r2.fe, .bool r2.ag, .int .i64 r2.ca, .int .i64 r2.sl, .slice A n n], .int .i64 code]) ∧ w.heap.size ≤ g ∧ g < w'.heap.size ∧ OwnV w' g 81 6 A n (zeroS n) ∧ n ≤ 64 ∧ Below w.heap.size w w'
theorem ownV_none0 (w : World) (g : Nat) (t : TypeId) (m : Nat) (A : Option Addr) : OwnV w g t m A 0 (zeroS 0) := ⟨by simp [zeroS], fun h => absurd h (by omega)⟩
theorem ownV_made {w : World} {g n : Nat} {t : TypeId} (h : Blk w g t (zeroS n).toArray) : OwnV w g t 6 (some ⟨g, 0, none⟩) n (zeroS n) := ⟨by simp [zeroS], fun _ => ⟨rfl, [], by simpa using h⟩⟩
set_option maxHeartbeats 2000000 in
theorem NewMemory_any (r r2 : Ru) (size code : Int) (n : Nat) (hr : nmR r size = (r2, n, code)) (w : World) : Calls Try.prog 13 #[.agg #[.int .i64 r.p, .int .i64 r.s, .bool r.st, .bool r.sk, .bool r.re, .bool r.fe, .bool r.ag, .int .i64 r.ca, .int .i64 r.sl], .int .i64 size] w (NmPost r2 n code w) := by
  unfold nmR at hr
  cases q : okRu r
  case false =>
    rw [q, if_neg (by simp)] at hr
    obtain ⟨rfl, rfl, rfl⟩ := tripR hr
    go_enter Try.func13, Try.ntmps13
    go_wp2_with (go_at_call 43; refine (ValidRules_lit r _).mono ?_; rintro e w_ ⟨rfl, rfl⟩)
    go_returns
    exact ⟨none, w.heap.size, rfl, Nat.le_refl _, (by first | (simp; done) | (simp; omega)), ownV_none0 _ _ _ _ _, by omega, by (repeat' (first | (with_reducible exact Below.refl _ _) | (with_reducible assumption) | (with_reducible refine Below.alloc ?_ ?_ _) | (with_reducible refine Below.drew ?_) | (with_reducible refine belowDrewN ?_ _) | (with_reducible refine Below.setCell ?_ ?_ _) | (with_reducible refine Below.via (by with_reducible assumption) ?_ ?_) | (with_reducible refine Below.viaD (by with_reducible assumption) ?_ ?_) | (with_reducible exact Below.size (by with_reducible assumption)) | go_size | (with_reducible refine Nat.le_trans ?_ (Below.size (by with_reducible assumption))) | (with_reducible refine Nat.le_trans ?_ (sizeAlloc _ _)) | (with_reducible refine Nat.le_trans ?_ (sizeSet _ _ _)) | (with_reducible refine Nat.le_trans ?_ (sizeDrew _))))⟩
  case true =>
    rw [q, if_pos rfl] at hr
    cases q2 : inB size 1 64
    case false =>
      rw [q2, if_neg (by simp)] at hr
      obtain ⟨rfl, rfl, rfl⟩ := tripR hr
      go_enter Try.func13, Try.ntmps13
      go_wp2_with (first | (go_at_call 43; refine (ValidRules_lit r _).mono ?_; rintro e w_ ⟨rfl, rfl⟩) | (go_at_call 44; refine (between_any _ _ _ _).mono ?_; rintro e w_ ⟨rfl, rfl⟩))
      go_returns
      exact ⟨none, w.heap.size, rfl, Nat.le_refl _, (by first | (simp; done) | (simp; omega)), ownV_none0 _ _ _ _ _, by omega, by (repeat' (first | (with_reducible exact Below.refl _ _) | (with_reducible assumption) | (with_reducible refine Below.alloc ?_ ?_ _) | (with_reducible refine Below.drew ?_) | (with_reducible refine belowDrewN ?_ _) | (with_reducible refine Below.setCell ?_ ?_ _) | (with_reducible refine Below.via (by with_reducible assumption) ?_ ?_) | (with_reducible refine Below.viaD (by with_reducible assumption) ?_ ?_) | (with_reducible exact Below.size (by with_reducible assumption)) | go_size | (with_reducible refine Nat.le_trans ?_ (Below.size (by with_reducible assumption))) | (with_reducible refine Nat.le_trans ?_ (sizeAlloc _ _)) | (with_reducible refine Nat.le_trans ?_ (sizeSet _ _ _)) | (with_reducible refine Nat.le_trans ?_ (sizeDrew _))))⟩
    case true =>
      rw [q2, if_pos rfl] at hr
      obtain ⟨rfl, hn, rfl⟩ := tripR hr
      obtain ⟨h1, h2⟩ := inB_of q2
      obtain ⟨m, rfl⟩ := Int.eq_ofNat_of_zero_le (show 0 ≤ size by omega)
      rw [Int.toNat_natCast] at hn
      subst hn
      obtain ⟨i0, hi, hz0, hz1, hz2⟩ := info_parts info_Slot
      have hmk := fun W => run_makeN (P := Try.prog) 25 81 i0 (.agg zC) Try.underlying25 hi hz0 .i64 .i64 m m (Nat.le_refl _) (by rw [hz2]; omega) (by omega) W
      rw [hz1, zeroS_made] at hmk
      clear hi hz0 hz1 hz2
      go_enter Try.func13, Try.ntmps13
      go_wp2_with (first | (go_at_call 43; refine (ValidRules_lit r _).mono ?_; rintro e w_ ⟨rfl, rfl⟩) | (go_at_call 44; refine (between_any _ _ _ _).mono ?_; rintro e w_ ⟨rfl, rfl⟩))
      go_region_with fail
      all_goals
        go_wp2_with fail
        go_returns
        exact ⟨_, _, rfl, by (repeat' (first | (with_reducible exact Below.refl _ _) | (with_reducible assumption) | (with_reducible refine Below.alloc ?_ ?_ _) | (with_reducible refine Below.drew ?_) | (with_reducible refine belowDrewN ?_ _) | (with_reducible refine Below.setCell ?_ ?_ _) | (with_reducible refine Below.via (by with_reducible assumption) ?_ ?_) | (with_reducible refine Below.viaD (by with_reducible assumption) ?_ ?_) | (with_reducible exact Below.size (by with_reducible assumption)) | go_size | (with_reducible refine Nat.le_trans ?_ (Below.size (by with_reducible assumption))) | (with_reducible refine Nat.le_trans ?_ (sizeAlloc _ _)) | (with_reducible refine Nat.le_trans ?_ (sizeSet _ _ _)) | (with_reducible refine Nat.le_trans ?_ (sizeDrew _)))), (by first | (simp; done) | (simp; omega)), ownV_made (Blk.new' (by simp)), by omega, by (repeat' (first | (with_reducible exact Below.refl _ _) | (with_reducible assumption) | (with_reducible refine Below.alloc ?_ ?_ _) | (with_reducible refine Below.drew ?_) | (with_reducible refine belowDrewN ?_ _) | (with_reducible refine Below.setCell ?_ ?_ _) | (with_reducible refine Below.via (by with_reducible assumption) ?_ ?_) | (with_reducible refine Below.viaD (by with_reducible assumption) ?_ ?_) | (with_reducible exact Below.size (by with_reducible assumption)) | go_size | (with_reducible refine Nat.le_trans ?_ (Below.size (by with_reducible assumption))) | (with_reducible refine Nat.le_trans ?_ (sizeAlloc _ _)) | (with_reducible refine Nat.le_trans ?_ (sizeSet _ _ _)) | (with_reducible refine Nat.le_trans ?_ (sizeDrew _))))⟩
end Go.Proofs.Ytpcenpedbdenmaa
