/- The reference's source of choices: numbers in range, the source as it lies. Conditions: bounds. -/
import Derived.Test.YteeplmnjipddaaaDoorG00
import Derived.Test.YteeplmnjipddaaaDoorG01
import Derived.Laws.Bits64b
namespace Go.Proofs.YteeplmnjipddaaaDoor
set_option linter.unusedSimpArgs false
set_option linter.unusedVariables false
open Go.RowKit

/-- A source of choices at a place: the bytes, a place in them, a seed. -/
structure Src (w : World) (b : Nat) (A : Option Addr) (n c M : Nat) (zs : List Int) : Prop where
  blk : ∃ (a : Nat) (s : Int), a ≤ M ∧ 0 ≤ s ∧ s < 18446744073709551616 ∧ Blk w b 61 #[.slice A n c, .int .i64 a, .int .u64 s]
  sl : Sl w w.heap.size 1 A n (zs.map (Value.int .u8))
  bd : ∀ z ∈ zs, 0 ≤ z ∧ z ≤ 255
  ap : ∀ b' off, A = some ⟨b', off, none⟩ → 0 < n → b' ≠ b
theorem u64_rng (x : Int) : 0 ≤ IntKind.u64.wrap x ∧ IntKind.u64.wrap x < 18446744073709551616 := by
  rw [IntKind.wrap_u64]
  omega
theorem src_grown {w w' : World} {row : Option Nat} (h : w.grownBy w' row) (k : Nat) : w.grownBy (w'.drewN k) row := ⟨h.os, h.tape, h.output, h.size, h.block⟩
theorem Sl.keepS {w w' : World} {size n : Nat} {A : Option Addr} {xs : List Value} (h : Sl w w.heap.size size A n xs) (hk : ∀ b off, A = some ⟨b, off, none⟩ → 0 < n → ∀ o, w'.cell? ⟨b, o, none⟩ = w.cell? ⟨b, o, none⟩) (hz : w.heap.size ≤ w'.heap.size) : Sl w' w'.heap.size size A n xs :=
  ⟨h.1, fun hn => by
    obtain ⟨b, off, e, hb, hc⟩ := h.2 hn
    exact ⟨b, off, e, Nat.lt_of_lt_of_le hb hz, fun j u hu => (hk b off e hn _).trans (hc j u hu)⟩⟩
theorem src_dr {w : World} {b n c M : Nat} {A : Option Addr} {zs : List Int} (h : Src w b A n c M zs) (k : Nat) : Src (w.drewN k) b A n c M zs := by
  obtain ⟨⟨a, s, ha, s0, s1, hb⟩, hsl, hbd, hap⟩ := h
  exact ⟨⟨a, s, ha, s0, s1, hb⟩, hsl.drewN k, hbd, hap⟩
theorem Src.mono {w : World} {b n c M M' : Nat} {A : Option Addr} {zs : List Int} (h : Src w b A n c M zs) (hm : M ≤ M') : Src w b A n c M' zs := by
  obtain ⟨⟨a, s, ha, s0, s1, hb⟩, hsl, hbd, hap⟩ := h
  exact ⟨⟨a, s, Nat.le_trans ha hm, s0, s1, hb⟩, hsl, hbd, hap⟩
theorem Src.lt {w : World} {b n c M : Nat} {A : Option Addr} {zs : List Int} (h : Src w b A n c M zs) : b < w.heap.size := by
  obtain ⟨_, _, _, _, _, hb⟩ := h.blk
  exact hb.lt
theorem grown_two {w w1 w2 : World} {b : Nat} (h1 : w.grownBy w1 (some b)) (h2 : w1.grownBy w2 (some b)) (hb : b < w.heap.size) : w.grownBy w2 (some b) :=
  ⟨h2.os.trans h1.os, h2.tape.trans h1.tape, h2.output.trans h1.output, Nat.le_trans h1.size h2.size, fun k hk hne => (h2.block k (Nat.lt_of_lt_of_le hk h1.size) hne).trans (h1.block k hk hne)⟩
theorem src_next {w : World} {b n c M a k1 k2 : Nat} {A : Option Addr} {zs : List Int} {s : Int} {u : Value} (hb : Blk w b 61 #[.slice A n c, u, .int .u64 s]) (hsl : Sl w w.heap.size 1 A n (zs.map (Value.int .u8))) (hbd : ∀ z ∈ zs, 0 ≤ z ∧ z ≤ 255) (hap : ∀ b' off, A = some ⟨b', off, none⟩ → 0 < n → b' ≠ b) (ha : a ≤ M) (S : Int) :
    Src ((((w.drewN k1).setCell ⟨b, 1, none⟩ (.int .i64 ((a : Int) + 1))).setCell ⟨b, 2, none⟩ (.int .u64 (IntKind.u64.wrap S))).drewN k2) b A n c (M + 1) zs ∧ w.grownBy ((((w.drewN k1).setCell ⟨b, 1, none⟩ (.int .i64 ((a : Int) + 1))).setCell ⟨b, 2, none⟩ (.int .u64 (IntKind.u64.wrap S))).drewN k2) (some b) := by
  refine ⟨⟨⟨a + 1, IntKind.u64.wrap S, by omega, (u64_rng _).1, (u64_rng _).2, ?_⟩, ?_, hbd, hap⟩, ?_⟩
  · exact Blk.set (Blk.set hb 1 (.int .i64 ((a : Int) + 1))) 2 _
  · refine hsl.keepS ?_ ?_
    · intro b'' o'' he h0 o
      have := hap b'' o'' he h0
      exact (World.cell?_setCell_other _ _ _ _ (fun e => by injection e with e1; exact this e1.symm)).trans (World.cell?_setCell_other _ _ _ _ (fun e => by injection e with e1; exact this e1.symm))
    · simp
  · exact src_grown (only_setCell (p := ⟨b, 2, none⟩) (only_setCell (p := ⟨b, 1, none⟩) (src_grown (World.grownBy.refl w _) _) (.inl rfl) _) (.inl rfl) _) _
theorem byte_of {S : Int} (h0 : 0 ≤ S) (h1 : S < 18446744073709551616) : ∃ x : Nat, bits .and .u64 (S / 1099511627776) 255 = x ∧ x ≤ 255 := by
  obtain ⟨m, rfl⟩ := Int.eq_ofNat_of_zero_le h0
  refine ⟨m / 1099511627776 &&& 255, ?_, Nat.and_le_right⟩
  exact bits_and_u64_nat (m / 1099511627776) 255 (by omega) (by omega)
set_option maxRecDepth 100000 in
set_option maxHeartbeats 2000000 in
theorem next_any (b : Nat) (A : Option Addr) (n c M : Nat) (zs : List Int) (w : World) (h : Src w b A n c M zs) (hn : n ≤ 1048576) (hM : M ≤ 1000000000) :
    Calls Tryd.prog 49 #[.pointer (some ⟨b, 0, none⟩)] w fun e w' => ∃ x : Nat, e = .returned (.int .i64 x) ∧ x ≤ 255 ∧ Src w' b A n c (M + 1) zs ∧ w.grownBy w' (some b) := by
  obtain ⟨⟨a, s, ha, s0, s1, hb⟩, hsl, hbd, hap⟩ := h
  have hzl : zs.length = n := by have := hsl.1; simpa using this
  have c0 := hb.cell 0
  have c1 := hb.cell 1
  have c2 := hb.cell 2
  have f0 := hb.free 0
  have f1 := hb.free 1
  have f2 := hb.free 2
  simp only [List.getElem?_toArray, List.getElem?_cons_zero, List.getElem?_cons_succ] at c0 c1 c2
  have HB := Lib.hid hb
  by_cases hlt : a < n
  case pos =>
    obtain ⟨b', off, rfl, hb', hc⟩ := hsl.2 (by omega)
    have hne := hap b' off rfl (by omega)
    have hz : zs[a]? = some (zs.getD a 0) := by rw [List.getD_eq_getElem?_getD, List.getElem?_eq_getElem (by omega)]; rfl
    have hcz := hc a (.int .u8 (zs.getD a 0)) (by rw [List.getElem?_map, hz]; rfl)
    have hzb := hbd _ (getD_mem 0 (show a < zs.length by omega))
    revert hcz hzb
    generalize zs.getD a 0 = z
    intro hcz hzb
    obtain ⟨z0, z1⟩ := hzb
    have hwz : IntKind.i64.wrap z = z := IntWalk.i64_in _ (by omega)
    have HS := Lib.hid hsl
    have HBD := Lib.hid hbd
    have HAP := Lib.hid hap
    clear hc hz hsl hap hb hzl hbd
    go_enter Tryd.func49, Tryd.ntmps49
    go_wp2_with fail
    first | (refine wp_region_quiet_lit (by kernel_rfl) (by kernel_rfl) ?_; refine WQ.of ?_; (repeat (refine WQ.step (fun K hK => ?_); go_simp; first | (refine hK _ ?_; clear hK K) | (apply Exists.intro; refine ⟨fun _ => ?_, hK _ ?_⟩; (fail); clear hK K))); refine WQ.nil ?_; intro _ hw'; obtain ⟨nq, hw''⟩ := hw'; subst hw'') | go_quiet (fail)
    go_wp2_with fail
    first | (refine wp_region_quiet_lit (by kernel_rfl) (by kernel_rfl) ?_; refine WQ.of ?_; (repeat (refine WQ.step (fun K hK => ?_); go_simp; first | (refine hK _ ?_; clear hK K) | (apply Exists.intro; refine ⟨fun _ => ?_, hK _ ?_⟩; (fail); clear hK K))); refine WQ.nil ?_; intro _ hw'; obtain ⟨nq, hw''⟩ := hw'; subst hw'') | go_quiet (fail)
    go_wp2_with fail
    first | (refine wp_region_quiet_lit (by kernel_rfl) (by kernel_rfl) ?_; refine WQ.of ?_; (repeat (refine WQ.step (fun K hK => ?_); go_simp; first | (refine hK _ ?_; clear hK K) | (apply Exists.intro; refine ⟨fun _ => ?_, hK _ ?_⟩; (fail); clear hK K))); refine WQ.nil ?_; intro _ hw'; obtain ⟨nq, hw''⟩ := hw'; subst hw'') | go_quiet (fail)
    go_wp2_with fail
    go_ret
    obtain ⟨x, hx⟩ := Int.eq_ofNat_of_zero_le z0
    refine ⟨x, by rw [hx]; rfl, by omega, ?_⟩
    exact src_next HB.out HS.out HBD.out HAP.out ha _
  case neg =>
    have HS := Lib.hid hsl
    have HBD := Lib.hid hbd
    have HAP := Lib.hid hap
    clear hsl hap hb hzl hbd
    go_enter Tryd.func49, Tryd.ntmps49
    go_wp2_with fail
    first | (refine wp_region_quiet_lit (by kernel_rfl) (by kernel_rfl) ?_; refine WQ.of ?_; (repeat (refine WQ.step (fun K hK => ?_); go_simp; first | (refine hK _ ?_; clear hK K) | (apply Exists.intro; refine ⟨fun _ => ?_, hK _ ?_⟩; (fail); clear hK K))); refine WQ.nil ?_; intro _ hw'; obtain ⟨nq, hw''⟩ := hw'; subst hw'') | go_quiet (fail)
    go_wp2_with fail
    first | (refine wp_region_quiet_lit (by kernel_rfl) (by kernel_rfl) ?_; refine WQ.of ?_; (repeat (refine WQ.step (fun K hK => ?_); go_simp; first | (refine hK _ ?_; clear hK K) | (apply Exists.intro; refine ⟨fun _ => ?_, hK _ ?_⟩; (fail); clear hK K))); refine WQ.nil ?_; intro _ hw'; obtain ⟨nq, hw''⟩ := hw'; subst hw'') | go_quiet (fail)
    go_wp2_with fail
    go_ret
    obtain ⟨x, hx, hx2⟩ := byte_of (u64_rng (IntKind.u64.wrap (IntKind.u64.wrap (s * 6364136223846793005)) + 1442695040888963407)).1 (u64_rng _).2
    refine ⟨x, ?_, hx2, src_next HB.out HS.out HBD.out HAP.out ha _⟩
    show Ending.returned (.int .i64 (wrap64 (bits .and .u64 (IntKind.u64.wrap (IntKind.u64.wrap (IntKind.u64.wrap (s * 6364136223846793005)) + 1442695040888963407) / 1099511627776) 255))) = _
    rw [hx]
    have e : wrap64 (x : Int) = x := by unfold wrap64; omega
    rw [e]
set_option maxHeartbeats 1000000 in
theorem pick_any (b : Nat) (A : Option Addr) (n c M : Nat) (zs : List Int) (m : Int) (w : World) (h : Src w b A n c M zs) (hn : n ≤ 1048576) (hM : M ≤ 999999998) (hm : m ≤ 1000000000) :
    Calls Tryd.prog 35 #[.pointer (some ⟨b, 0, none⟩), .int .i64 m] w fun e w' => ∃ x : Int, e = .returned (.int .i64 x) ∧ 0 ≤ x ∧ (1 < m → x < m) ∧ (m ≤ 1 → x = 0) ∧ Src w' b A n c (M + 2) zs ∧ w.grownBy w' (some b) := by
  by_cases h1 : 1 < m
  case neg =>
    have HS0 := Lib.hid (h.mono (show M ≤ M + 2 by omega))
    go_enter Tryd.func35, Tryd.ntmps35
    go_wp2_with fail
    go_ret
    have hm2 := HS0.out
    first
      | exact ⟨0, rfl, by omega, fun h => absurd h (by omega), fun _ => rfl, hm2, World.grownBy.refl _ _⟩
      | exact ⟨0, rfl, by omega, fun h => absurd h (by omega), rfl, hm2, World.grownBy.refl _ _⟩
      | exact ⟨0, rfl, by omega, rfl, hm2, World.grownBy.refl _ _⟩
      | (trace_state; fail)
  case pos =>
    have H := Lib.hid h
    clear h
    by_cases h2 : 200 < m
    case neg =>
      go_enter Tryd.func35, Tryd.ntmps35
      go_wp2_with (go_at_call 49; refine (next_any b A n c M zs _ H.out hn (by omega)).mono ?_; rintro e w1 ⟨x, rfl, hx, s1, g1⟩)
      go_ret
      have hx0 := Int.emod_nonneg (x : Int) (b := m) (by omega)
      have hx1 := Int.emod_lt_of_pos (x : Int) (b := m) (by omega)
      exact ⟨(x : Int) % m, rfl, hx0, fun _ => hx1, fun h => absurd h (by omega), s1.mono (by omega), g1⟩
    case pos =>
      go_enter Tryd.func35, Tryd.ntmps35
      go_wp2_with (go_at_call 49; first | (refine (next_any b A n c M zs _ H.out hn (by omega)).mono ?_; rintro e w1 ⟨x, rfl, hx, s1, g1⟩) | (refine (next_any b A n c (M + 1) zs _ s1 hn (by omega)).mono ?_; rintro e w2 ⟨y, rfl, hy, s2, g2⟩))
      go_ret
      have hx0 := Int.emod_nonneg ((x : Int) * 256 + y) (b := m) (by omega)
      have hx1 := Int.emod_lt_of_pos ((x : Int) * 256 + y) (b := m) (by omega)
      exact ⟨((x : Int) * 256 + y) % m, rfl, hx0, fun _ => hx1, fun h => absurd h (by omega), s2, grown_two g1 g2 H.out.lt⟩
theorem one_any (b : Nat) (A : Option Addr) (n c M : Nat) (zs : List Int) (m : Int) (w : World) (h : Src w b A n c M zs) (hn : n ≤ 1048576) (hM : M ≤ 999999998) (hm : m ≤ 1000000000) :
    Calls Tryd.prog 44 #[.pointer (some ⟨b, 0, none⟩), .int .i64 m] w fun e w' => ∃ q : Bool, e = .returned (.bool q) ∧ Src w' b A n c (M + 2) zs ∧ w.grownBy w' (some b) := by
  go_enter Tryd.func44, Tryd.ntmps44
  go_wp2_with (go_at_call 35; refine (pick_any b A n c M zs m _ h hn hM hm).mono ?_; rintro e w1 ⟨x, rfl, hx, _, _, s1, g1⟩)
  go_ret
  exact ⟨_, rfl, s1, g1⟩
theorem l00From_any (A : Option Addr) (n c : Nat) (zs : List Int) (w : World) (hs : Sl w w.heap.size 1 A n (zs.map (Value.int .u8))) (hz : ∀ z ∈ zs, 0 ≤ z ∧ z ≤ 255) :
    Calls Tryd.prog 18 #[.slice A n c] w fun e w' => ∃ b : Nat, e = .returned (.pointer (some ⟨b, 0, none⟩)) ∧ w.heap.size ≤ b ∧ Src w' b A n c 0 zs ∧ Below w.heap.size w w' := by
  go_enter Tryd.func18, Tryd.ntmps18
  go_wp2_with fail
  go_ret
  refine ⟨_, rfl, by (repeat' (first | (with_reducible exact Below.refl _ _) | (with_reducible assumption) | (with_reducible refine Below.alloc ?_ ?_ _) | (with_reducible refine Below.drew ?_) | (with_reducible refine belowDrewN ?_ _) | (with_reducible refine Below.setCell ?_ ?_ _) | (with_reducible refine Below.via (by with_reducible assumption) ?_ ?_) | (with_reducible refine Below.viaD (by with_reducible assumption) ?_ ?_) | (with_reducible exact Below.size (by with_reducible assumption)) | go_size | (with_reducible refine Nat.le_trans ?_ (Below.size (by with_reducible assumption))) | (with_reducible refine Nat.le_trans ?_ (sizeAlloc _ _)) | (with_reducible refine Nat.le_trans ?_ (sizeSet _ _ _)) | (with_reducible refine Nat.le_trans ?_ (sizeDrew _)))), ⟨⟨0, 0, by omega, by omega, by omega, Blk.new' rfl⟩, hs.later (by (repeat' (first | (with_reducible exact Below.refl _ _) | (with_reducible assumption) | (with_reducible refine Below.alloc ?_ ?_ _) | (with_reducible refine Below.drew ?_) | (with_reducible refine belowDrewN ?_ _) | (with_reducible refine Below.setCell ?_ ?_ _) | (with_reducible refine Below.via (by with_reducible assumption) ?_ ?_) | (with_reducible refine Below.viaD (by with_reducible assumption) ?_ ?_) | (with_reducible exact Below.size (by with_reducible assumption)) | go_size | (with_reducible refine Nat.le_trans ?_ (Below.size (by with_reducible assumption))) | (with_reducible refine Nat.le_trans ?_ (sizeAlloc _ _)) | (with_reducible refine Nat.le_trans ?_ (sizeSet _ _ _)) | (with_reducible refine Nat.le_trans ?_ (sizeDrew _))))), hz, ?_⟩, by (repeat' (first | (with_reducible exact Below.refl _ _) | (with_reducible assumption) | (with_reducible refine Below.alloc ?_ ?_ _) | (with_reducible refine Below.drew ?_) | (with_reducible refine belowDrewN ?_ _) | (with_reducible refine Below.setCell ?_ ?_ _) | (with_reducible refine Below.via (by with_reducible assumption) ?_ ?_) | (with_reducible refine Below.viaD (by with_reducible assumption) ?_ ?_) | (with_reducible exact Below.size (by with_reducible assumption)) | go_size | (with_reducible refine Nat.le_trans ?_ (Below.size (by with_reducible assumption))) | (with_reducible refine Nat.le_trans ?_ (sizeAlloc _ _)) | (with_reducible refine Nat.le_trans ?_ (sizeSet _ _ _)) | (with_reducible refine Nat.le_trans ?_ (sizeDrew _))))⟩
  intro b' off e h0
  obtain ⟨b2, off2, e2, hb2, _⟩ := hs.2 h0
  rw [e] at e2
  injection e2 with e2
  injection e2 with e2
  omega
end Go.Proofs.YteeplmnjipddaaaDoor
