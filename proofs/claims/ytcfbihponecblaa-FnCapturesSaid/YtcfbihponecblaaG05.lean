/- The reference's source: one of some texts, a text with a change. Conditions: at most 2^20 bytes. -/
import Derived.Test.YtcfbihponecblaaG01
import Derived.Test.YtcfbihponecblaaG04
import Derived.Test.YtcfbihponecblaaG03
import Derived.Deep.DeepCutAuto
import Derived.Laws.DeepStrings4
import Derived.Laws.Strings3
import Derived.Test.YtcfbihponecblaaG02
/- A list of own blocks that are known, carried over calls that only make memory. No conditions. -/
namespace Go.Proofs.Ytcfbihponecblaa
set_option linter.unusedSimpArgs false
set_option linter.unusedVariables false
open Go.RowKit Go.WideShapes Go.ChangeShapes

/-- Each named block holds its cells. -/
def Cells : World → List (Nat × Array Value) → Prop
  | _, [] => True
  | W, f :: fs => (f.1 < W.heap.size ∧ ∀ i, W.cell? ⟨f.1, i, none⟩ = f.2[i]?) ∧ Cells W fs
def Keeps (w W : World) (fs : List (Nat × Array Value)) : Prop := Below w.heap.size w W ∧ Cells W fs
theorem Cells.later {W W' : World} : ∀ {fs : List (Nat × Array Value)}, Cells W fs → Below W.heap.size W W' → Cells W' fs
  | [], _, _ => trivial
  | f :: fs, ⟨⟨hl, hc⟩, hr⟩, hb => ⟨⟨Nat.lt_of_lt_of_le hl hb.size, fun i => (hb.cell (p := ⟨f.1, i, none⟩) hl).trans (hc i)⟩, Cells.later hr hb⟩
theorem Cells.drew {W : World} : ∀ {fs : List (Nat × Array Value)}, Cells W fs → Cells W.drew fs
  | [], _ => trivial
  | _ :: _, ⟨h, hr⟩ => ⟨h, Cells.drew hr⟩
theorem Keeps.nil (w : World) : Keeps w w [] := ⟨Below.refl _ _, trivial⟩
theorem Keeps.b {w W : World} {fs : List (Nat × Array Value)} (h : Keeps w W fs) : Below w.heap.size w W := h.1
theorem Keeps.later {w W W' : World} {fs : List (Nat × Array Value)} (h : Keeps w W fs) (hb : Below W.heap.size W W') : Keeps w W' fs := ⟨Below.via hb h.1 h.1.size, h.2.later hb⟩
theorem Keeps.drew {w W : World} {fs : List (Nat × Array Value)} (h : Keeps w W fs) : Keeps w W.drew fs := ⟨belowDrewN h.1 1, h.2.drew⟩
theorem Keeps.boxed {w W : World} {fs : List (Nat × Array Value)} (h : Keeps w W fs) (o : Obj) : Keeps w (W.alloc o) fs := h.later (boxed_ W o)
theorem Keeps.box {w W : World} {fs : List (Nat × Array Value)} {g : Nat} (h : Keeps w W fs) (hg : g = W.heap.size) (cs : Array Value) (t : TypeId) : Keeps w (W.alloc (.cells cs t)) ((g, cs) :: fs) :=
  ⟨(h.boxed _).1, ⟨by subst hg; exact (Blk.new W t cs).lt, fun i => by subst hg; exact (Blk.new W t cs).cell i⟩, (h.boxed _).2⟩
theorem Keeps.drop {w W : World} {f : Nat × Array Value} {fs : List (Nat × Array Value)} (h : Keeps w W (f :: fs)) : Keeps w W fs := ⟨h.1, h.2.2⟩
end Go.Proofs.Ytcfbihponecblaa
/- FlawText and RatedText: both functions, and the laws. Conditions: the table of powers as it is laid. -/
namespace Go.Proofs.Ytcfbihponecblaa
set_option linter.unusedSimpArgs false
set_option linter.unusedVariables false
open Go.RowKit Go.WideShapes Go.ChangeShapes Go.Deep

theorem add_all (a b s : ByteArray) (h : a ++ b = s) (hs : a.size + b.size ≤ 9223372036854775807) : ∀ w, (Op.stringOp .add a b).run Try.prog w = .ok (.string s) w := by
  intro w
  rw [run_string_add_sum w a b hs, h]
theorem decS_size {n : Int} (h0 : -9223372036854775808 ≤ n) (h1 : n ≤ 9223372036854775807) : (decS n).size ≤ 21 := by
  have := Lib.itoa_length_le n h0 h1
  show (Lib.itoa n).toArray.size ≤ 21
  simpa using this
theorem flawS_size (k : Int) : (flawS k).size ≤ 6 := by
  unfold flawS
  split
  · decide
  · split
    · decide
    · split
      · decide
      · split
        · decide
        · split <;> decide
def flawT (a k : Int) : ByteArray := (decS a ++ ⟨#[32]⟩) ++ flawS k
def ratedT (a b : Int) : ByteArray := (decS a ++ ⟨#[47]⟩) ++ decS b
def ratedX (a b : Int) : ByteArray := if validB a b then ratedT a b else ⟨#[]⟩
theorem validB_bd {a b : Int} (h : validB a b = true) : -9223372036854775808 ≤ a ∧ a ≤ 9223372036854775807 ∧ -9223372036854775808 ≤ b ∧ b ≤ 9223372036854775807 := by
  simp only [validB, Bool.and_eq_true] at h
  have h1 := inB_of h.1
  have h2 := inB_of h.2
  omega
end Go.Proofs.Ytcfbihponecblaa
/- Numbers read from their decimal forms, by both functions. Conditions: the table of powers as it is laid. -/
namespace Go.Proofs.Ytcfbihponecblaa
set_option linter.unusedSimpArgs false
set_option linter.unusedVariables false
open Go.RowKit Go.WideShapes

def dgt (c : UInt8) : Bool := decide (48 ≤ c.toNat ∧ c.toNat ≤ 57)
theorem dgt_t {c : UInt8} (h : dgt c = true) : 48 ≤ (c.toNat : Int) ∧ (c.toNat : Int) ≤ 57 := by
  simp only [dgt, decide_eq_true_eq] at h; omega
def val (l : List UInt8) : Int := l.foldl (fun (n : Int) c => 10 * n + ((c.toNat : Int) - 48)) 0
theorem val_snoc (l : List UInt8) (c : UInt8) : val (l ++ [c]) = 10 * val l + ((c.toNat : Int) - 48) := by rw [val, List.foldl_append]; rfl
theorem val_bd : ∀ (n : Nat) (l : List UInt8), l.length = n → (∀ c ∈ l, dgt c = true) → 0 ≤ val l ∧ val l < (10 ^ n : Nat)
  | 0, l, h, _ => by
    rw [List.eq_nil_of_length_eq_zero h]
    simp [val]
  | n + 1, l, h, ha => by
    rcases List.eq_nil_or_concat l with rfl | ⟨L, c, rfl⟩
    · simp at h
    · rw [List.concat_eq_append] at h ha ⊢
      have h1 := val_bd n L (by simpa using h) (fun d hd => ha d (List.mem_append_left _ hd))
      have h2 := dgt_t (ha c (List.mem_append_right _ (List.mem_singleton.2 rfl)))
      rw [val_snoc, Nat.pow_succ]
      omega
theorem val_le (l : List UInt8) (k : Nat) (h : ∀ c ∈ l, dgt c = true) (hk : l.length ≤ k) : 0 ≤ val l ∧ val l < (10 ^ k : Nat) := by
  have h1 := val_bd l.length l rfl h
  have h2 : 10 ^ l.length ≤ 10 ^ k := Nat.pow_le_pow_right (by omega) hk
  omega
def bodyL : List UInt8 → List UInt8
  | [] => []
  | c :: r => if c = 45 then r else c :: r
def sgn (b : Bool) (v : Int) : Int := if b then -v else v
def numL (s : ByteArray) (t : List UInt8) (b : Bool) : Int × Bool :=
  if 1 ≤ t.length ∧ t.length ≤ 18 ∧ t.all dgt = true then (if decS (sgn b (val t)) = s then (sgn b (val t), true) else (0, false)) else (0, false)
def numR (s : ByteArray) : Int × Bool := numL s (bodyL s.data.toList) (decide ((bodyL s.data.toList).length < s.data.toList.length))
theorem numL_len {s : ByteArray} {t : List UInt8} {b : Bool} (h : ¬ (1 ≤ t.length ∧ t.length ≤ 18)) : numL s t b = (0, false) := by rw [numL, if_neg (fun h2 => h ⟨h2.1, h2.2.1⟩)]
theorem numL_bad {s : ByteArray} {t : List UInt8} {b : Bool} {c : UInt8} (hc : c ∈ t) (h : dgt c = false) : numL s t b = (0, false) := by
  rw [numL, if_neg]
  rintro ⟨_, _, h2⟩
  have := List.all_eq_true.1 h2 c hc
  rw [h] at this
  exact absurd this (by decide)
theorem numL_ne {s : ByteArray} {t : List UInt8} {b : Bool} (h : decS (sgn b (val t)) ≠ s) : numL s t b = (0, false) := by
  by_cases hc : 1 ≤ t.length ∧ t.length ≤ 18 ∧ t.all dgt = true
  · rw [numL, if_pos hc, if_neg h]
  · rw [numL, if_neg hc]
theorem numL_yes {s : ByteArray} {t : List UInt8} {b : Bool} (h1 : 1 ≤ t.length) (h2 : t.length ≤ 18) (h3 : ∀ c ∈ t, dgt c = true) (h : decS (sgn b (val t)) = s) : numL s t b = (sgn b (val t), true) := by
  rw [numL, if_pos ⟨h1, h2, List.all_eq_true.2 h3⟩, if_pos h]
theorem ba_len (t : ByteArray) : t.data.toList.length = t.size := by rw [Array.length_toList]; rfl
theorem take_snocB (t : ByteArray) (k : Nat) (h : k < t.size) : t.data.toList.take (k + 1) = t.data.toList.take k ++ [t[k]] := by
  rw [List.take_add_one, List.getElem?_eq_getElem (by rw [ba_len]; exact h)]
  rfl
theorem mem_at (t : ByteArray) (k : Nat) (h : k < t.size) : t[k] ∈ t.data.toList := List.getElem_mem (by rw [ba_len]; exact h)
theorem body_ne {s : ByteArray} (h : 0 < s.size) (h2 : s[0] ≠ 45) : bodyL s.data.toList = s.data.toList := by
  have h1 : 0 < s.data.toList.length := by rw [ba_len]; exact h
  have h3 : s.data.toList[0] ≠ 45 := h2
  revert h1 h3
  cases s.data.toList with
  | nil => intro h1; exact absurd h1 (by simp)
  | cons c r => intro _ h3; have h5 : c ≠ 45 := h3; rw [bodyL, if_neg h5]
theorem body_neg {s : ByteArray} (h : 0 < s.size) (h2 : s[0] = 45) : bodyL s.data.toList = (s.extract 1 s.size).data.toList := by
  have h1 : 0 < s.data.toList.length := by rw [ba_len]; exact h
  have h3 : s.data.toList[0] = 45 := h2
  have h4 : (s.extract 1 s.size).data.toList = s.data.toList.drop 1 := by
    rw [ByteArray.data_extract, Array.toList_extract, List.extract_eq_take_drop]
    have : s.data.toList.length = s.size := ba_len s
    rw [List.take_of_length_le (by rw [List.length_drop]; omega)]
  rw [h4]
  revert h1 h3
  cases s.data.toList with
  | nil => intro h1; exact absurd h1 (by simp)
  | cons c r => intro _ h3; have h5 : c = 45 := h3; rw [bodyL, if_pos h5]; rfl
theorem tup2 {n n' : Int} {b b' : Bool} (h : (n, b) = (n', b')) : Ending.returned (.tuple #[.int .i64 n, .bool b]) = .returned (.tuple #[.int .i64 n', .bool b']) := by
  injection h with h1 h2
  rw [h1, h2]
theorem toList_inj {a b : ByteArray} (h : a.toList = b.toList) : a = b := by
  rw [ByteArray.toList_eq, ByteArray.toList_eq] at h
  apply ByteArray.ext
  exact Array.toList_inj.1 h
end Go.Proofs.Ytcfbihponecblaa
/- The reference's source: one of some texts, a text with a change. Conditions: at most 2^20 bytes. -/
namespace Go.Proofs.Ytcfbihponecblaa
set_option linter.unusedSimpArgs false
set_option linter.unusedVariables false
open Go.RowKit Go.WideShapes

set_option maxHeartbeats 1000000 in
theorem textD_any (b : Nat) (A : Option Addr) (n c M : Nat) (cs : List Int) (g m q : Nat) (ss : List ByteArray) (w : World) (h : Src w b A n c M cs) (hn : n ≤ 1048576) (hM : M ≤ 999999998) (hl : Sl w w.heap.size 1 (some ⟨g, 0, none⟩) m (ss.map Value.string)) (hg : g ≠ b) (hm : 2 ≤ m) (hm2 : m ≤ 1000) :
    Calls Try.prog 35 #[.pointer (some ⟨b, 0, none⟩), .slice (some ⟨g, 0, none⟩) m q] w fun e w' => ∃ x : ByteArray, e = .returned (.string x) ∧ x ∈ ss ∧ Src w' b A n c (M + 2) cs ∧ w.grownBy w' (some b) := by
  have HS := Lib.hid h
  have HL := Lib.hid hl
  have hlen : ss.length = m := by have := hl.1; simpa using this
  clear h hl
  go_enter Try.func35, Try.ntmps35
  go_wp2_with fail
  refine (pick_any b A n c M cs (m : Nat) _ HS.out hn hM (by omega)).mono ?_
  rintro e w1 ⟨x, rfl, hx0, hx1, -, S1, g1⟩
  have hx2 := hx1 (by omega)
  obtain ⟨k, rfl⟩ := Int.eq_ofNat_of_zero_le hx0
  have hk : k < m := by omega
  obtain ⟨b2, off, e2, hb2, hcc⟩ := HL.out.2 (by omega)
  injection e2 with e2
  injection e2 with e21 e22 _
  subst e21 e22
  obtain ⟨z, hz⟩ : ∃ z, ss[k]? = some z := ⟨_, List.getElem?_eq_getElem (by omega)⟩
  have hc := hcc k (.string z) (by rw [List.getElem?_map, hz]; rfl)
  have hc1 := g1.cell (a := ⟨g, 0 + k, none⟩) hc (by simpa using hg)
  have HS1 := Lib.hid S1
  have HG1 := Lib.hid g1
  have HM := Lib.hid (List.mem_of_getElem? hz)
  rw [Nat.zero_add] at hc1
  clear S1 g1 hx1 hc hcc hz
  go_wp2_with fail
  go_ret
  exact ⟨z, rfl, HM.out, HS1.out, HG1.out⟩
end Go.Proofs.Ytcfbihponecblaa
