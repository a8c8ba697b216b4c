/- Ratings are read back from their texts; the order falls. Plain. No conditions. -/
import Derived.Test.YteeplmnjipddaaaDoorG11
import Derived.Test.YteeplmnjipddaaaDoorG06
namespace Go.Proofs.YteeplmnjipddaaaDoor
set_option linter.unusedSimpArgs false
set_option linter.unusedVariables false
open Go.RowKit

theorem dgt_mk (d : Nat) : dgt (UInt8.ofNat (48 + d % 10)) = true := by
  have e : (UInt8.ofNat (48 + d % 10)).toNat = 48 + d % 10 := by rw [UInt8.toNat_ofNat', Nat.mod_eq_of_lt (by omega)]
  unfold dgt
  rw [e]
  exact decide_eq_true (by omega)
theorem digs_all (u : Nat) : ∀ c ∈ digs u, dgt c = true := by
  induction u using Nat.strongRecOn with
  | _ u ih =>
    by_cases h : u = 0
    · subst h; rw [digs_zero]; intro c hc; exact absurd hc (by simp)
    · rw [digs_step h]
      intro c hc
      rcases List.mem_append.1 hc with h1 | h1
      · exact ih (u / 10) (by omega) c h1
      · rw [List.mem_singleton.1 h1]; exact dgt_mk u
theorem digs_val (u : Nat) : val (digs u) = u := by
  induction u using Nat.strongRecOn with
  | _ u ih =>
    by_cases h : u = 0
    · subst h; rw [digs_zero]; rfl
    · rw [digs_step h, val_snoc, ih (u / 10) (by omega), digit_nat]
      omega
theorem dgt_ne {c d : UInt8} (h : dgt c = true) (hd : dgt d = false) : c ≠ d := by
  intro e; rw [e, hd] at h; exact absurd h (by decide)
theorem decS_list {n : Int} (h0 : 0 ≤ n) : (decS n).data.toList = if n = 0 then [48] else digs n.natAbs := by
  by_cases h : n = 0
  · subst h; rw [decS_zero, if_pos rfl]
  · rw [decS_pos (by omega), if_neg h]
theorem decS_dgt {n : Int} (h0 : 0 ≤ n) : ∀ c ∈ (decS n).data.toList, dgt c = true := by
  rw [decS_list h0]
  split
  · intro c hc; rw [List.mem_singleton.1 hc]; decide
  · exact digs_all _
theorem decS_val {n : Int} (h0 : 0 ≤ n) : val (decS n).data.toList = n := by
  rw [decS_list h0]
  split
  · rename_i h; subst h; rfl
  · rw [digs_val]; omega
theorem decS_length {n : Int} (h0 : 0 ≤ n) (h1 : n < 1000000000000000000) : 1 ≤ (decS n).data.toList.length ∧ (decS n).data.toList.length ≤ 18 := by
  rw [decS_list h0]
  split
  · exact ⟨Nat.le_refl _, by simp⟩
  · rename_i h
    refine ⟨?_, digs_len 18 _ (by omega)⟩
    rcases Nat.eq_zero_or_pos (digs n.natAbs).length with h2 | h2
    · exact absurd (digs_nil (List.length_eq_zero_iff.1 h2)) (by omega)
    · exact h2
theorem body_dgt {l : List UInt8} (h : ∀ c ∈ l, dgt c = true) : bodyL l = l := by
  cases l with
  | nil => rfl
  | cons c r => rw [bodyL, if_neg (dgt_ne (h c List.mem_cons_self) (by decide))]
theorem numR_decS {n : Int} (h0 : 0 ≤ n) (h1 : n < 1000000000000000000) : numR (decS n) = (n, true) := by
  have hd := decS_dgt h0
  obtain ⟨l1, l2⟩ := decS_length h0 h1
  have e : sgn (decide ((decS n).data.toList.length < (decS n).data.toList.length)) (val (decS n).data.toList) = n := by
    rw [decide_eq_false (by omega), decS_val h0]; rfl
  rw [numR, body_dgt hd, numL_yes l1 l2 hd (by rw [e]), e]
theorem ratedT_list (a b : Int) : (ratedT a b).data.toList = (decS a).data.toList ++ 47 :: (decS b).data.toList := by
  rw [ratedT]
  simp
theorem rdR_ratedT {a b : Int} (h : validB a b = true) : rdR (ratedT a b).data.toList = (a, b, true) := by
  have hv : 0 ≤ a ∧ a ≤ 4000 ∧ 0 ≤ b ∧ b ≤ 1000000 := by
    have h2 := h
    simp only [validB, Bool.and_eq_true] at h2
    have h3 := inB_of h2.1
    have h4 := inB_of h2.2
    omega
  have e : splitL 47 (ratedT a b).data.toList = [(decS a).data.toList, (decS b).data.toList] := by
    rw [ratedT_list, splitL_hit _ (fun x hx => dgt_ne (decS_dgt hv.1 x hx) (by decide)), splitL_none (fun x hx => dgt_ne (decS_dgt hv.2.2.1 x hx) (by decide))]
  rw [rdR, e]
  show rd2 (numR ⟨(decS a).data.toList.toArray⟩) (numR ⟨(decS b).data.toList.toArray⟩) = _
  rw [← ba_self, ← ba_self, numR_decS hv.1 (by omega), numR_decS hv.2.2.1 (by omega), rd2]
  simp [h]
/-- What the text of a player reads as. -/
theorem rdR_ratedX (a b : Int) : rdR (ratedX a b).data.toList = if validB a b then (a, b, true) else (0, 0, false) := by
  cases h : validB a b
  · rw [ratedX, h, if_neg (by decide), if_neg (by decide)]; decide +kernel
  · rw [ratedX, h, if_pos rfl, if_pos rfl, rdR_ratedT h]
theorem ratedX_empty (a b : Int) : (ratedX a b = ⟨#[]⟩) ↔ validB a b = false := by
  cases h : validB a b
  · rw [ratedX, h]; exact ⟨fun _ => rfl, fun _ => rfl⟩
  · rw [ratedX, h, if_pos rfl]
    refine ⟨fun e => ?_, fun e => absurd e (by decide)⟩
    have h2 := ratedT_list a b
    rw [e] at h2
    simp at h2
theorem ratedX_size (a b : Int) : (ratedX a b).size ≤ 1000 := by
  cases h : validB a b
  · rw [ratedX, h, if_neg (by decide)]; decide
  · obtain ⟨a0, a1, b0, b1⟩ := validB_bd h
    rw [ratedX, h, if_pos rfl, ratedT, ByteArray.size_append, ByteArray.size_append]
    have h1 := decS_size a0 a1
    have h2 := decS_size b0 b1
    show (decS a).size + 1 + (decS b).size ≤ 1000
    omega
end Go.Proofs.YteeplmnjipddaaaDoor
