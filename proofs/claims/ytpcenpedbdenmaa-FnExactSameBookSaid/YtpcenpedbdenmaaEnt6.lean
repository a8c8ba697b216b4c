/- Books compared by both functions. No conditions beyond lengths. -/
import Derived.Test.YtpcenpedbdenmaaEnt5
namespace Go.Proofs.Ytpcenpedbdenmaa
set_option linter.unusedSimpArgs false
set_option linter.unusedVariables false
open Go.RowKit Go.WideShapes Go.ChangeShapes Go.Deep

def sameEs (ss ss' : List EntR) (n : Nat) : Bool := (List.range n).all fun j => sameEntR (ss.getD j dE) (ss'.getD j dE)
theorem sameEs_no {ss ss' : List EntR} {n k : Nat} (hk : k < n) (h : sameEntR (ss.getD k dE) (ss'.getD k dE) = false) : sameEs ss ss' n = false := by
  rw [sameEs, Bool.eq_false_iff]
  intro hc
  have := List.all_eq_true.1 hc k (List.mem_range.2 hk)
  rw [h] at this
  exact absurd this (by decide)
theorem sameEs_yes {ss ss' : List EntR} {n : Nat} (h : ∀ k, k < n → sameEntR (ss.getD k dE) (ss'.getD k dE) = true) : sameEs ss ss' n = true := List.all_eq_true.2 fun k hk => h k (List.mem_range.1 hk)
def fnSameBook_0 (d d' : BookD) : Bool := d.r.same d'.r && decide (d.es.length = d'.es.length) && sameEs d.es d'.es d.es.length
set_option maxRecDepth 100000 in
set_option maxHeartbeats 4000000 in
theorem SameBook_x (cs : List Value) (d : BookD) (cs' : List Value) (d' : BookD) (w : World) (h : XBook w cs d) (h' : XBook w cs' d') (_ : szBook d ≤ 1048576) (_ : szBook d' ≤ 1048576) : Calls Try.prog 40 #[.agg cs.toArray, .agg cs'.toArray] w fun e w' => e = .returned (.bool (fnSameBook_0 d d')) ∧ Below w.heap.size w w' := by
  obtain ⟨A, n, c, rfl, hs, l⟩ := h
  obtain ⟨A', n', c', rfl, hs', l'⟩ := h'
  obtain ⟨q, hq⟩ : ∃ q, fnSameBook_0 d d' = q := ⟨_, rfl⟩
  have HE : Hid ((d.r.same d'.r && decide (n = n') && sameEs d.es d'.es n) = q) := by unfold Hid; rw [← hq, fnSameBook_0, hs.len, hs'.len]
  have HQ := Lib.hid hq
  clear hq
  rw [HQ.out]
  obtain ⟨r, ss⟩ := d
  obtain ⟨r', ss'⟩ := d'
  simp only at *
  cases g : r.same r'
  case false =>
    obtain rfl : q = false := by rw [← HE.out, g]; rfl
    have hif := ru_no g
    clear g
    go_enter Try.func40, Try.ntmps40
    go_wp2_with fail
    all_goals first | (go_ret; exact ⟨rfl, by (repeat' (first | (with_reducible exact Below.refl _ _) | (with_reducible assumption) | (with_reducible refine Below.alloc ?_ ?_ _) | (with_reducible refine Below.drew ?_) | (with_reducible refine belowDrewN ?_ _) | (with_reducible refine Below.setCell ?_ ?_ _) | (with_reducible refine Below.via (by with_reducible assumption) ?_ ?_) | (with_reducible refine Below.viaD (by with_reducible assumption) ?_ ?_) | (with_reducible exact Below.size (by with_reducible assumption)) | go_size | (with_reducible refine Nat.le_trans ?_ (Below.size (by with_reducible assumption))) | (with_reducible refine Nat.le_trans ?_ (sizeAlloc _ _)) | (with_reducible refine Nat.le_trans ?_ (sizeSet _ _ _)) | (with_reducible refine Nat.le_trans ?_ (sizeDrew _))))⟩) | (exfalso; revert hif; simp [*])
  case true =>
    obtain rfl := ru_eq g
    clear g
    by_cases hn : n = n'
    case neg =>
      obtain rfl : q = false := by rw [← HE.out, decide_eq_false hn]; simp
      have hn1 : ((n : Int) != n') = true := by simp; omega
      go_enter Try.func40, Try.ntmps40
      go_wp2_with fail
      go_ret
      exact ⟨rfl, by (repeat' (first | (with_reducible exact Below.refl _ _) | (with_reducible assumption) | (with_reducible refine Below.alloc ?_ ?_ _) | (with_reducible refine Below.drew ?_) | (with_reducible refine belowDrewN ?_ _) | (with_reducible refine Below.setCell ?_ ?_ _) | (with_reducible refine Below.via (by with_reducible assumption) ?_ ?_) | (with_reducible refine Below.viaD (by with_reducible assumption) ?_ ?_) | (with_reducible exact Below.size (by with_reducible assumption)) | go_size | (with_reducible refine Nat.le_trans ?_ (Below.size (by with_reducible assumption))) | (with_reducible refine Nat.le_trans ?_ (sizeAlloc _ _)) | (with_reducible refine Nat.le_trans ?_ (sizeSet _ _ _)) | (with_reducible refine Nat.le_trans ?_ (sizeDrew _))))⟩
    case pos =>
      subst hn
      have HN : Hid (∀ k, k < n → sameEntR (ss.getD k dE) (ss'.getD k dE) = false → q = false) := fun k hk hf => by rw [← HE.out, sameEs_no hk hf]; simp
      have HA : Hid ((∀ k, k < n → sameEntR (ss.getD k dE) (ss'.getD k dE) = true) → q = true) := fun hf => by rw [← HE.out, sameEs_yes hf]; simp [Ru.same]
      clear HE
      have HS := Lib.hid hs
      have HS' := Lib.hid hs'
      clear hs hs'
      go_enter Try.func40, Try.ntmps40
      go_wp2_with fail
      go_loopw [24] (fun i wr => ∃ k : Nat, k ≤ n ∧ i = .int .i64 k ∧ Hid (∀ j, j < k → sameEntR (ss.getD j dE) (ss'.getD j dE) = true) ∧ Keeps w wr [(w.heap.size + 1, #[.int .i64 r.p, .int .i64 r.s, .bool r.st, .bool r.sk, .bool r.re, .bool r.fe, .bool r.ag, .int .i64 r.ca, .int .i64 r.sl, .slice A' n c']), (w.heap.size, #[.int .i64 r.p, .int .i64 r.s, .bool r.st, .bool r.sk, .bool r.re, .bool r.fe, .bool r.ag, .int .i64 r.ca, .int .i64 r.sl, .slice A n c])]) (fun i _ => n - (intOf i).toNat)
      case atStart => exact ⟨0, Nat.zero_le _, rfl, fun j hj => absurd hj (by omega), ((Keeps.nil w).box (g := w.heap.size) (by simp) _ _).box (g := w.heap.size + 1) (by simp) _ _⟩
      case round =>
        obtain ⟨k, hk, rfl, hpre, hkp⟩ := hrel
        have HK := Lib.hid hkp
        obtain ⟨hbl, ⟨kl1, kc1⟩, ⟨kl0, kc0⟩, _⟩ := hkp
        by_cases hlt : k < n
        · obtain ⟨b, off, ps, es, A1, m1, c1, A2, m2, c2, rfl, hb', HL, x0, x1, hs1, hs2, hm1, hm2⟩ := (HS.out.later hbl).row hlt
          obtain ⟨b2, off2, ps', es', B1, n1, d1, B2, n2, d2, rfl, hb2', HL2, y0, y1, ht1, ht2, hn1, hn2⟩ := (HS'.out.later hbl).row hlt
          have HO : Hid (sameEntR (ss.getD k dE) (ss'.getD k dE) = sameEntR ⟨ps, es⟩ ⟨ps', es'⟩) := by unfold Hid; rw [HL.out, HL2.out]
          have S1 := Lib.hid hs1
          have S2 := Lib.hid hs2
          have T1 := Lib.hid ht1
          have T2 := Lib.hid ht2
          have X0 := Lib.hid x0
          have X1 := Lib.hid x1
          have Y0 := Lib.hid y0
          have Y1 := Lib.hid y1
          have HB := Lib.hid hbl
          clear hs1 hs2 ht1 ht2 hbl
          obtain ⟨g, g3⟩ : ∃ g, (ps == ps') = g := ⟨_, rfl⟩
          obtain ⟨g2, g4⟩ : ∃ g, eqL es es' = g := ⟨_, rfl⟩
          have G5 : Hid (sameEntR (ss.getD k dE) (ss'.getD k dE) = (g && g2)) := by unfold Hid; rw [HO.out, sameEntR, g3, g4]
          have G3 := Lib.hid g3
          have G4 := Lib.hid g4
          clear g3 g4
          go_wp2_with fail
          generalize hWW : World.alloc wr _ = WW
          have HW : Hid (Below wr.heap.size wr WW) := by unfold Hid; rw [← hWW]; exact boxed_ _ _
          have z0 : WW.cell? ⟨wr.heap.size, 0, none⟩ = some (.slice A1 m1 c1) := by rw [← hWW]; exact (Blk.new wr _ _).cell 0
          have z1 : WW.cell? ⟨wr.heap.size, 1, none⟩ = some (.slice A2 m2 c2) := by rw [← hWW]; exact (Blk.new wr _ _).cell 1
          clear hWW
          have HK2 := Lib.hid (HK.out.later HW.out)
          have hkp2 := HK2.out
          clear kl1 kc1 kl0 kc0
          obtain ⟨hbl2, ⟨kl1, kc1⟩, ⟨kl0, kc0⟩, _⟩ := hkp2
          replace S1 := Lib.hid (S1.out.later HW.out)
          replace S2 := Lib.hid (S2.out.later HW.out)
          replace T1 := Lib.hid (T1.out.later HW.out)
          replace T2 := Lib.hid (T2.out.later HW.out)
          have y0' := (HW.out.cell (p := ⟨b2, off2 + k * 2, none⟩) hb2').trans Y0.out
          have y1' := (HW.out.cell (p := ⟨b2, off2 + k * 2 + 1, none⟩) hb2').trans Y1.out
          have HB2 := Lib.hid hbl2
          clear hbl2 x0 x1 y0 y1
          cases g <;> cases g2
          all_goals
            first | (refine wp_region_quiet_lit (by kernel_rfl) (by kernel_rfl) ?_; refine WQ.of ?_; (repeat (refine WQ.step (fun K hK => ?_); go_simp; first | (refine hK _ ?_; clear hK K) | (apply Exists.intro; refine ⟨fun _ => ?_, hK _ ?_⟩; ((first | (go_at_call 70; exact sameNumbers_q A1 B1 m1 n1 c1 d1 ps ps' _ S1.out T1.out hm1 hn1 _ G3.out _) | (go_at_call 71; exact sameChoices_q A2 B2 m2 n2 c2 d2 es es' _ S2.out T2.out hm2 hn2 _ G4.out _))); clear hK K))); refine WQ.nil ?_; intro _ hw'; obtain ⟨nq, hw''⟩ := hw'; subst hw'') | go_quiet ((first | (go_at_call 70; exact sameNumbers_q A1 B1 m1 n1 c1 d1 ps ps' _ S1.out T1.out hm1 hn1 _ G3.out _) | (go_at_call 71; exact sameChoices_q A2 B2 m2 n2 c2 d2 es es' _ S2.out T2.out hm2 hn2 _ G4.out _)))
            go_wp2_with fail
            first
            | (go_ret
               obtain rfl : q = false := HN.out k hlt G5.out
               exact ⟨rfl, belowDrewN HB2.out _⟩)
            | (go_roundw
               case rel =>
                 refine ⟨k + 1, by omega, by go_num, fun j hj => ?_, HK2.out.later (belowDrewN (Below.refl _ _) _)⟩
                 rcases Nat.lt_or_ge j k with h | h
                 · exact hpre.out j h
                 · obtain rfl : j = k := by omega
                   exact G5.out
               case measure => first | (simp [intOf]; done) | (simp [intOf]; omega))
        · obtain rfl : k = n := by omega
          obtain rfl : q = true := HA.out hpre.out
          go_wp2
          go_ret
          exact ⟨rfl, hbl⟩
set_option maxRecDepth 100000 in
set_option maxHeartbeats 4000000 in
theorem sSameBook_x (cs : List Value) (d : BookD) (cs' : List Value) (d' : BookD) (w : World) (h : XBook w cs d) (h' : XBook w cs' d') (_ : szBook d ≤ 1048576) (_ : szBook d' ≤ 1048576) : Calls Try.prog 38 #[.agg cs.toArray, .agg cs'.toArray] w fun e w' => e = .returned (.bool (fnSameBook_0 d d')) ∧ Below w.heap.size w w' := by
  obtain ⟨A, n, c, rfl, hs, l⟩ := h
  obtain ⟨A', n', c', rfl, hs', l'⟩ := h'
  obtain ⟨q, hq⟩ : ∃ q, fnSameBook_0 d d' = q := ⟨_, rfl⟩
  have HE : Hid ((d.r.same d'.r && decide (n = n') && sameEs d.es d'.es n) = q) := by unfold Hid; rw [← hq, fnSameBook_0, hs.len, hs'.len]
  have HQ := Lib.hid hq
  clear hq
  rw [HQ.out]
  obtain ⟨r, ss⟩ := d
  obtain ⟨r', ss'⟩ := d'
  simp only at *
  cases g : r.same r'
  case false =>
    obtain rfl : q = false := by rw [← HE.out, g]; rfl
    have hif := ru_no g
    clear g
    go_enter Try.func38, Try.ntmps38
    go_wp2_with fail
    all_goals first | (go_ret; exact ⟨rfl, by (repeat' (first | (with_reducible exact Below.refl _ _) | (with_reducible assumption) | (with_reducible refine Below.alloc ?_ ?_ _) | (with_reducible refine Below.drew ?_) | (with_reducible refine belowDrewN ?_ _) | (with_reducible refine Below.setCell ?_ ?_ _) | (with_reducible refine Below.via (by with_reducible assumption) ?_ ?_) | (with_reducible refine Below.viaD (by with_reducible assumption) ?_ ?_) | (with_reducible exact Below.size (by with_reducible assumption)) | go_size | (with_reducible refine Nat.le_trans ?_ (Below.size (by with_reducible assumption))) | (with_reducible refine Nat.le_trans ?_ (sizeAlloc _ _)) | (with_reducible refine Nat.le_trans ?_ (sizeSet _ _ _)) | (with_reducible refine Nat.le_trans ?_ (sizeDrew _))))⟩) | (exfalso; revert hif; simp [*])
  case true =>
    obtain rfl := ru_eq g
    clear g
    by_cases hn : n = n'
    case neg =>
      obtain rfl : q = false := by rw [← HE.out, decide_eq_false hn]; simp
      have hn1 : ((n : Int) != n') = true := by simp; omega
      go_enter Try.func38, Try.ntmps38
      go_wp2_with fail
      go_ret
      exact ⟨rfl, by (repeat' (first | (with_reducible exact Below.refl _ _) | (with_reducible assumption) | (with_reducible refine Below.alloc ?_ ?_ _) | (with_reducible refine Below.drew ?_) | (with_reducible refine belowDrewN ?_ _) | (with_reducible refine Below.setCell ?_ ?_ _) | (with_reducible refine Below.via (by with_reducible assumption) ?_ ?_) | (with_reducible refine Below.viaD (by with_reducible assumption) ?_ ?_) | (with_reducible exact Below.size (by with_reducible assumption)) | go_size | (with_reducible refine Nat.le_trans ?_ (Below.size (by with_reducible assumption))) | (with_reducible refine Nat.le_trans ?_ (sizeAlloc _ _)) | (with_reducible refine Nat.le_trans ?_ (sizeSet _ _ _)) | (with_reducible refine Nat.le_trans ?_ (sizeDrew _))))⟩
    case pos =>
      subst hn
      have HN : Hid (∀ k, k < n → sameEntR (ss.getD k dE) (ss'.getD k dE) = false → q = false) := fun k hk hf => by rw [← HE.out, sameEs_no hk hf]; simp
      have HA : Hid ((∀ k, k < n → sameEntR (ss.getD k dE) (ss'.getD k dE) = true) → q = true) := fun hf => by rw [← HE.out, sameEs_yes hf]; simp [Ru.same]
      clear HE
      have HS := Lib.hid hs
      have HS' := Lib.hid hs'
      clear hs hs'
      go_enter Try.func38, Try.ntmps38
      go_wp2_with fail
      go_loopw [5] (fun i wr => ∃ k : Nat, k ≤ n ∧ i = .int .i64 k ∧ Hid (∀ j, j < k → sameEntR (ss.getD j dE) (ss'.getD j dE) = true) ∧ Keeps w wr [(w.heap.size + 1, #[.int .i64 r.p, .int .i64 r.s, .bool r.st, .bool r.sk, .bool r.re, .bool r.fe, .bool r.ag, .int .i64 r.ca, .int .i64 r.sl, .slice A' n c']), (w.heap.size, #[.int .i64 r.p, .int .i64 r.s, .bool r.st, .bool r.sk, .bool r.re, .bool r.fe, .bool r.ag, .int .i64 r.ca, .int .i64 r.sl, .slice A n c])]) (fun i _ => n - (intOf i).toNat)
      case atStart => exact ⟨0, Nat.zero_le _, rfl, fun j hj => absurd hj (by omega), ((Keeps.nil w).box (g := w.heap.size) (by simp) _ _).box (g := w.heap.size + 1) (by simp) _ _⟩
      case round =>
        obtain ⟨k, hk, rfl, hpre, hkp⟩ := hrel
        have HK := Lib.hid hkp
        obtain ⟨hbl, ⟨kl1, kc1⟩, ⟨kl0, kc0⟩, _⟩ := hkp
        by_cases hlt : k < n
        · obtain ⟨b, off, ps, es, A1, m1, c1, A2, m2, c2, rfl, hb', HL, x0, x1, hs1, hs2, hm1, hm2⟩ := (HS.out.later hbl).row hlt
          obtain ⟨b2, off2, ps', es', B1, n1, d1, B2, n2, d2, rfl, hb2', HL2, y0, y1, ht1, ht2, hn1, hn2⟩ := (HS'.out.later hbl).row hlt
          have HO : Hid (sameEntR (ss.getD k dE) (ss'.getD k dE) = sameEntR ⟨ps, es⟩ ⟨ps', es'⟩) := by unfold Hid; rw [HL.out, HL2.out]
          have S1 := Lib.hid hs1
          have S2 := Lib.hid hs2
          have T1 := Lib.hid ht1
          have T2 := Lib.hid ht2
          have X0 := Lib.hid x0
          have X1 := Lib.hid x1
          have Y0 := Lib.hid y0
          have Y1 := Lib.hid y1
          have HB := Lib.hid hbl
          clear hs1 hs2 ht1 ht2 hbl
          obtain ⟨g, g3⟩ : ∃ g, sameEntR ⟨ps, es⟩ ⟨ps', es'⟩ = g := ⟨_, rfl⟩
          have G3 := Lib.hid g3
          have HC : Hid (Calls Try.prog 68 #[.pointer (some ⟨b, off + k * 2, none⟩), .pointer (some ⟨b2, off2 + k * 2, none⟩)] wr.drew fun e w' => e = .returned (.bool g) ∧ Below wr.drew.heap.size wr.drew w') := by
            have h9 := l20Same_any b (off + k * 2) b2 (off2 + k * 2) ps es ps' es' A1 A2 B1 B2 m1 c1 m2 c2 n1 d1 n2 d2 wr.drew hb' hb2' x0 x1 y0 y1 (S1.out.drewN 1) (T1.out.drewN 1) (S2.out.drewN 1) (T2.out.drewN 1) hm1 hn1 hm2 hn2
            rw [g3] at h9
            exact h9
          clear g3
          cases g
          case false =>
            obtain rfl : q = false := HN.out k hlt (HO.out.trans G3.out)
            go_wp2_with fail
            go_region_with (go_at_call 68; (with_reducible refine Calls.mono HC.out ?_); rintro e w1 ⟨rfl, hb1⟩; have hbu := Below.undrew hb1; clear hb1)
            all_goals
              go_wp2_with fail
              go_ret
              exact ⟨rfl, Below.via hbu HB.out HB.out.size⟩
          case true =>
            go_wp2_with fail
            go_region_with (go_at_call 68; (with_reducible refine Calls.mono HC.out ?_); rintro e w1 ⟨rfl, hb1⟩; have hbu := Below.undrew hb1; clear hb1)
            all_goals
              go_wp2_with fail
              go_roundw
              case rel =>
                refine ⟨k + 1, by omega, by go_num, fun j hj => ?_, HK.out.later hbu⟩
                rcases Nat.lt_or_ge j k with h | h
                · exact hpre.out j h
                · obtain rfl : j = k := by omega
                  exact HO.out.trans G3.out
              case measure => first | (simp [intOf]; done) | (simp [intOf]; omega)
        · obtain rfl : k = n := by omega
          obtain rfl : q = true := HA.out hpre.out
          go_wp2
          go_ret
          exact ⟨rfl, hbl⟩
end Go.Proofs.Ytpcenpedbdenmaa
