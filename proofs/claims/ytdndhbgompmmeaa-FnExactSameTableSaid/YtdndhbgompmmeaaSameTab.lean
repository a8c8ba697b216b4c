/- SameTable: the program's function over data. No conditions. -/
import Derived.Test.YtdndhbgompmmeaaTableX
import Derived.Test.YtdndhbgompmmeaaSame
namespace Go.Proofs.Ytdndhbgompmmeaa
set_option linter.unusedSimpArgs false
set_option linter.unusedVariables false
open Go.RowKit

def sameTable (d d' : TableD) : Bool := d.r.same d'.r && (d.most == d'.most) && (d.vs == d'.vs) && (d.rs == d'.rs)
theorem sameTable_r {d d' : TableD} (h : d.r.same d'.r = false) : sameTable d d' = false := by rw [sameTable, h]; rfl
set_option maxRecDepth 100000 in
set_option maxHeartbeats 2000000 in
theorem SameTable_any (cs cs' : List Value) (d d' : TableD) (w : World) (h : XTable w cs d) (h' : XTable w cs' d') : Calls Try.prog 29 #[.agg cs.toArray, .agg cs'.toArray] w fun e w' => e = .returned (.bool (sameTable d d')) ∧ Below w.heap.size w w' := by
  obtain ⟨A_vs, n_vs, c_vs, A_rs, n_rs, c_rs, e, s_vs, l_vs, s_rs, l_rs⟩ := h
  obtain ⟨A_vs', n_vs', c_vs', A_rs', n_rs', c_rs', e2, s_vs', l_vs', s_rs', l_rs'⟩ := h'
  subst e e2
  obtain ⟨r, hr⟩ : ∃ r, sameTable d d' = r := ⟨_, rfl⟩
  have HR := Lib.hid hr
  clear hr
  rw [HR.out]
  obtain ⟨q, hq⟩ : ∃ q, (d.vs == d'.vs) = q := ⟨_, rfl⟩
  obtain ⟨q2, hq2⟩ : ∃ q, (d.rs == d'.rs) = q := ⟨_, rfl⟩
  have HQ := Lib.hid hq
  have HQ2 := Lib.hid hq2
  clear hq hq2
  cases q <;> cases q2
  all_goals
    go_enter Try.func29, Try.ntmps29
    go_wp2_with (first | (go_at_call 60; ((with_reducible refine (sameNumbers_any A_vs A_vs' n_vs n_vs' c_vs c_vs' d.vs d'.vs _ (s_vs.later (by (repeat' (first | (with_reducible exact Below.refl _ _) | (with_reducible assumption) | (with_reducible refine Below.alloc ?_ ?_ _) | (with_reducible refine Below.drew ?_) | (with_reducible refine belowDrewN ?_ _) | (with_reducible refine Below.setCell ?_ ?_ _) | (with_reducible refine Below.via (by with_reducible assumption) ?_ ?_) | (with_reducible exact Below.size (by with_reducible assumption)) | go_size | (with_reducible refine Nat.le_trans ?_ (Below.size (by with_reducible assumption))) | (with_reducible refine Nat.le_trans ?_ (sizeAlloc _ _)) | (with_reducible refine Nat.le_trans ?_ (sizeSet _ _ _)) | (with_reducible refine Nat.le_trans ?_ (sizeDrew _)))))) (s_vs'.later (by (repeat' (first | (with_reducible exact Below.refl _ _) | (with_reducible assumption) | (with_reducible refine Below.alloc ?_ ?_ _) | (with_reducible refine Below.drew ?_) | (with_reducible refine belowDrewN ?_ _) | (with_reducible refine Below.setCell ?_ ?_ _) | (with_reducible refine Below.via (by with_reducible assumption) ?_ ?_) | (with_reducible exact Below.size (by with_reducible assumption)) | go_size | (with_reducible refine Nat.le_trans ?_ (Below.size (by with_reducible assumption))) | (with_reducible refine Nat.le_trans ?_ (sizeAlloc _ _)) | (with_reducible refine Nat.le_trans ?_ (sizeSet _ _ _)) | (with_reducible refine Nat.le_trans ?_ (sizeDrew _)))))) l_vs l_vs').mono ?_)); rw [HQ.out]; rintro e w1 ⟨rfl, hb1⟩; obtain ⟨hc1, hf1, hl1, hz1⟩ := bfacts hb1) | (go_at_call 60; ((with_reducible refine (sameNumbers_any A_rs A_rs' n_rs n_rs' c_rs c_rs' d.rs d'.rs _ (s_rs.later (by (repeat' (first | (with_reducible exact Below.refl _ _) | (with_reducible assumption) | (with_reducible refine Below.alloc ?_ ?_ _) | (with_reducible refine Below.drew ?_) | (with_reducible refine belowDrewN ?_ _) | (with_reducible refine Below.setCell ?_ ?_ _) | (with_reducible refine Below.via (by with_reducible assumption) ?_ ?_) | (with_reducible exact Below.size (by with_reducible assumption)) | go_size | (with_reducible refine Nat.le_trans ?_ (Below.size (by with_reducible assumption))) | (with_reducible refine Nat.le_trans ?_ (sizeAlloc _ _)) | (with_reducible refine Nat.le_trans ?_ (sizeSet _ _ _)) | (with_reducible refine Nat.le_trans ?_ (sizeDrew _)))))) (s_rs'.later (by (repeat' (first | (with_reducible exact Below.refl _ _) | (with_reducible assumption) | (with_reducible refine Below.alloc ?_ ?_ _) | (with_reducible refine Below.drew ?_) | (with_reducible refine belowDrewN ?_ _) | (with_reducible refine Below.setCell ?_ ?_ _) | (with_reducible refine Below.via (by with_reducible assumption) ?_ ?_) | (with_reducible exact Below.size (by with_reducible assumption)) | go_size | (with_reducible refine Nat.le_trans ?_ (Below.size (by with_reducible assumption))) | (with_reducible refine Nat.le_trans ?_ (sizeAlloc _ _)) | (with_reducible refine Nat.le_trans ?_ (sizeSet _ _ _)) | (with_reducible refine Nat.le_trans ?_ (sizeDrew _)))))) l_rs l_rs').mono ?_)); rw [HQ2.out]; rintro e w2 ⟨rfl, hb2⟩))
    all_goals
      have h1 := HR.out
      have h2 := HQ.out
      have h3 := HQ2.out
      simp only [sameTable, Ru.same, h2, h3] at h1
      go_ret
      refine ⟨?_, by (repeat' (first | (with_reducible exact Below.refl _ _) | (with_reducible assumption) | (with_reducible refine Below.alloc ?_ ?_ _) | (with_reducible refine Below.drew ?_) | (with_reducible refine belowDrewN ?_ _) | (with_reducible refine Below.setCell ?_ ?_ _) | (with_reducible refine Below.via (by with_reducible assumption) ?_ ?_) | (with_reducible exact Below.size (by with_reducible assumption)) | go_size | (with_reducible refine Nat.le_trans ?_ (Below.size (by with_reducible assumption))) | (with_reducible refine Nat.le_trans ?_ (sizeAlloc _ _)) | (with_reducible refine Nat.le_trans ?_ (sizeSet _ _ _)) | (with_reducible refine Nat.le_trans ?_ (sizeDrew _))))⟩
      subst h1
      simp [*]
end Go.Proofs.Ytdndhbgompmmeaa
