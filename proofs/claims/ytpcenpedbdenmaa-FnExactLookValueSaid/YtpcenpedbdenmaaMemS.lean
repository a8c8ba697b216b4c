/- Memories compared by both functions. No conditions beyond lengths. -/
import Derived.Test.YtpcenpedbdenmaaMemX
import Derived.Test.YtpcenpedbdenmaaSameQ
import Derived.Test.YtpcenpedbdenmaaSlot7
import Derived.Test.YtpcenpedbdenmaaKeeps
namespace Go.Proofs.Ytpcenpedbdenmaa
set_option linter.unusedSimpArgs false
set_option linter.unusedVariables false
open Go.RowKit Go.WideShapes Go.ChangeShapes Go.Deep

def sameSlotR (s s' : SlotR) : Bool := (s.u == s'.u) && (s.ps == s'.ps) && (s.p == s'.p) && (s.d == s'.d) && (s.v == s'.v) && (s.b == s'.b)
set_option maxHeartbeats 2000000 in
theorem sameSlot_any (u u' : Bool) (ps ps' : List Int) (p d v b p' d' v' b' : Int) (A A' : Option Addr) (m c m' c' : Nat) (w : World) (hs : Sl w w.heap.size 1 A m (ps.map (Value.int .i64))) (hs' : Sl w w.heap.size 1 A' m' (ps'.map (Value.int .i64))) (hm : m ≤ 9223372036854775807) (hm' : m' ≤ 9223372036854775807) :
    Calls Try.prog 52 #[.agg #[.bool u, .slice A m c, .int .i64 p, .int .i64 d, .int .i64 v, .int .i64 b], .agg #[.bool u', .slice A' m' c', .int .i64 p', .int .i64 d', .int .i64 v', .int .i64 b']] w fun e w' => e = .returned (.bool (sameSlotR ⟨u, ps, p, d, v, b⟩ ⟨u', ps', p', d', v', b'⟩)) ∧ Below w.heap.size w w' := by
  obtain ⟨r, hr⟩ : ∃ r, sameSlotR ⟨u, ps, p, d, v, b⟩ ⟨u', ps', p', d', v', b'⟩ = r := ⟨_, rfl⟩
  have HR := Lib.hid hr
  clear hr
  rw [HR.out]
  cases q : (ps == ps')
  all_goals
    have Q := Lib.hid q
    clear q
    go_enter Try.func52, Try.ntmps52
    go_wp2_with (go_at_call 70; ((with_reducible refine (sameNumbers_any A A' m m' c c' ps ps' _ (hs.later (by (repeat' (first | (with_reducible exact Below.refl _ _) | (with_reducible assumption) | (with_reducible refine Below.alloc ?_ ?_ _) | (with_reducible refine Below.drew ?_) | (with_reducible refine belowDrewN ?_ _) | (with_reducible refine Below.setCell ?_ ?_ _) | (with_reducible refine Below.via (by with_reducible assumption) ?_ ?_) | (with_reducible refine Below.viaD (by with_reducible assumption) ?_ ?_) | (with_reducible exact Below.size (by with_reducible assumption)) | go_size | (with_reducible refine Nat.le_trans ?_ (Below.size (by with_reducible assumption))) | (with_reducible refine Nat.le_trans ?_ (sizeAlloc _ _)) | (with_reducible refine Nat.le_trans ?_ (sizeSet _ _ _)) | (with_reducible refine Nat.le_trans ?_ (sizeDrew _)))))) (hs'.later (by (repeat' (first | (with_reducible exact Below.refl _ _) | (with_reducible assumption) | (with_reducible refine Below.alloc ?_ ?_ _) | (with_reducible refine Below.drew ?_) | (with_reducible refine belowDrewN ?_ _) | (with_reducible refine Below.setCell ?_ ?_ _) | (with_reducible refine Below.via (by with_reducible assumption) ?_ ?_) | (with_reducible refine Below.viaD (by with_reducible assumption) ?_ ?_) | (with_reducible exact Below.size (by with_reducible assumption)) | go_size | (with_reducible refine Nat.le_trans ?_ (Below.size (by with_reducible assumption))) | (with_reducible refine Nat.le_trans ?_ (sizeAlloc _ _)) | (with_reducible refine Nat.le_trans ?_ (sizeSet _ _ _)) | (with_reducible refine Nat.le_trans ?_ (sizeDrew _)))))) hm hm').mono ?_)); rw [Q.out]; rintro e w1 ⟨rfl, hb1⟩; obtain ⟨hc1, hf1, hl1, hz1⟩ := bfacts hb1)
    all_goals
      have h1 := HR.out
      have h2 := Q.out
      simp only [sameSlotR, h2] at h1
      go_ret
      refine ⟨?_, by (repeat' (first | (with_reducible exact Below.refl _ _) | (with_reducible assumption) | (with_reducible refine Below.alloc ?_ ?_ _) | (with_reducible refine Below.drew ?_) | (with_reducible refine belowDrewN ?_ _) | (with_reducible refine Below.setCell ?_ ?_ _) | (with_reducible refine Below.via (by with_reducible assumption) ?_ ?_) | (with_reducible refine Below.viaD (by with_reducible assumption) ?_ ?_) | (with_reducible exact Below.size (by with_reducible assumption)) | go_size | (with_reducible refine Nat.le_trans ?_ (Below.size (by with_reducible assumption))) | (with_reducible refine Nat.le_trans ?_ (sizeAlloc _ _)) | (with_reducible refine Nat.le_trans ?_ (sizeSet _ _ _)) | (with_reducible refine Nat.le_trans ?_ (sizeDrew _))))⟩
      subst h1
      simp [*]
set_option maxHeartbeats 2000000 in
theorem l16Same_any (b1 o1 b2 o2 : Nat) (s s' : SlotR) (A A' : Option Addr) (m c m' c' : Nat) (w : World) (h : SlAt w b1 o1 s A m c) (h' : SlAt w b2 o2 s' A' m' c') (hs : Sl w w.heap.size 1 A m (s.ps.map (Value.int .i64))) (hs' : Sl w w.heap.size 1 A' m' (s'.ps.map (Value.int .i64))) (hm : m ≤ 9223372036854775807) (hm' : m' ≤ 9223372036854775807) :
    Calls Try.prog 50 #[.pointer (some ⟨b1, o1, none⟩), .pointer (some ⟨b2, o2, none⟩)] w fun e w' => e = .returned (.bool (sameSlotR s s')) ∧ Below w.heap.size w w' := by
  have L1 := h.lt
  have L2 := h'.lt
  obtain ⟨u, ps, p, d, v, b⟩ := s
  obtain ⟨u', ps', p', d', v', b'⟩ := s'
  obtain ⟨x0, x1, x2, x3, x4, x5⟩ := h
  obtain ⟨y0, y1, y2, y3, y4, y5⟩ := h'
  simp only at *
  obtain ⟨q, hq⟩ : ∃ q, (ps == ps') = q := ⟨_, rfl⟩
  have HPS := Lib.hid hq
  by_cases g_u : u = u'
  case neg =>
    have q_u : (u == u') = false := beq_eq_false_iff_ne.2 g_u
    have HE : Hid (sameSlotR ⟨u, ps, p, d, v, b⟩ ⟨u', ps', p', d', v', b'⟩ = false) := by unfold Hid sameSlotR; simp [q_u]
    clear hq g_u
    go_enter Try.func50, Try.ntmps50
    go_wp2_with fail
    first | (refine wp_region_quiet_lit (by kernel_rfl) (by kernel_rfl) ?_; refine WQ.of ?_; (repeat (refine WQ.step (fun K hK => ?_); go_simp; first | (refine hK _ ?_; clear hK K) | (apply Exists.intro; refine ⟨fun _ => ?_, hK _ ?_⟩; ((go_at_call 76; exact l00Same_q A A' m m' c c' ps ps' w hs hs' hm hm' _ HPS.out _)); clear hK K))); refine WQ.nil ?_; intro _ hw'; obtain ⟨nq, hw''⟩ := hw'; subst hw'') | go_quiet ((go_at_call 76; exact l00Same_q A A' m m' c c' ps ps' w hs hs' hm hm' _ HPS.out _))
    go_wp2_with fail
    go_ret
    exact ⟨by rw [HE.out]; rfl, belowDrewN (Below.refl _ _) _⟩
  case pos =>
    subst g_u
    cases q
    case false =>
      have HE : Hid (sameSlotR ⟨u, ps, p, d, v, b⟩ ⟨u, ps', p', d', v', b'⟩ = false) := by unfold Hid sameSlotR; simp [hq]
      clear hq
      go_enter Try.func50, Try.ntmps50
      go_wp2_with fail
      first | (refine wp_region_quiet_lit (by kernel_rfl) (by kernel_rfl) ?_; refine WQ.of ?_; (repeat (refine WQ.step (fun K hK => ?_); go_simp; first | (refine hK _ ?_; clear hK K) | (apply Exists.intro; refine ⟨fun _ => ?_, hK _ ?_⟩; ((go_at_call 76; exact l00Same_q A A' m m' c c' ps ps' w hs hs' hm hm' _ HPS.out _)); clear hK K))); refine WQ.nil ?_; intro _ hw'; obtain ⟨nq, hw''⟩ := hw'; subst hw'') | go_quiet ((go_at_call 76; exact l00Same_q A A' m m' c c' ps ps' w hs hs' hm hm' _ HPS.out _))
      go_wp2_with fail
      go_ret
      exact ⟨by rw [HE.out]; rfl, belowDrewN (Below.refl _ _) _⟩
    case true =>
      by_cases g_p : p = p'
      case neg =>
        have q_p : (p == p') = false := beq_eq_false_iff_ne.2 g_p
        have HE : Hid (sameSlotR ⟨u, ps, p, d, v, b⟩ ⟨u, ps', p', d', v', b'⟩ = false) := by unfold Hid sameSlotR; simp [q_p]
        clear hq g_p
        go_enter Try.func50, Try.ntmps50
        go_wp2_with fail
        first | (refine wp_region_quiet_lit (by kernel_rfl) (by kernel_rfl) ?_; refine WQ.of ?_; (repeat (refine WQ.step (fun K hK => ?_); go_simp; first | (refine hK _ ?_; clear hK K) | (apply Exists.intro; refine ⟨fun _ => ?_, hK _ ?_⟩; ((go_at_call 76; exact l00Same_q A A' m m' c c' ps ps' w hs hs' hm hm' _ HPS.out _)); clear hK K))); refine WQ.nil ?_; intro _ hw'; obtain ⟨nq, hw''⟩ := hw'; subst hw'') | go_quiet ((go_at_call 76; exact l00Same_q A A' m m' c c' ps ps' w hs hs' hm hm' _ HPS.out _))
        go_wp2_with fail
        go_ret
        exact ⟨by rw [HE.out]; rfl, belowDrewN (Below.refl _ _) _⟩
      case pos =>
        subst g_p
        by_cases g_d : d = d'
        case neg =>
          have q_d : (d == d') = false := beq_eq_false_iff_ne.2 g_d
          have HE : Hid (sameSlotR ⟨u, ps, p, d, v, b⟩ ⟨u, ps', p, d', v', b'⟩ = false) := by unfold Hid sameSlotR; simp [q_d]
          clear hq g_d
          go_enter Try.func50, Try.ntmps50
          go_wp2_with fail
          first | (refine wp_region_quiet_lit (by kernel_rfl) (by kernel_rfl) ?_; refine WQ.of ?_; (repeat (refine WQ.step (fun K hK => ?_); go_simp; first | (refine hK _ ?_; clear hK K) | (apply Exists.intro; refine ⟨fun _ => ?_, hK _ ?_⟩; ((go_at_call 76; exact l00Same_q A A' m m' c c' ps ps' w hs hs' hm hm' _ HPS.out _)); clear hK K))); refine WQ.nil ?_; intro _ hw'; obtain ⟨nq, hw''⟩ := hw'; subst hw'') | go_quiet ((go_at_call 76; exact l00Same_q A A' m m' c c' ps ps' w hs hs' hm hm' _ HPS.out _))
          go_wp2_with fail
          go_ret
          exact ⟨by rw [HE.out]; rfl, belowDrewN (Below.refl _ _) _⟩
        case pos =>
          subst g_d
          by_cases g_v : v = v'
          case neg =>
            have q_v : (v == v') = false := beq_eq_false_iff_ne.2 g_v
            have HE : Hid (sameSlotR ⟨u, ps, p, d, v, b⟩ ⟨u, ps', p, d, v', b'⟩ = false) := by unfold Hid sameSlotR; simp [q_v]
            clear hq g_v
            go_enter Try.func50, Try.ntmps50
            go_wp2_with fail
            first | (refine wp_region_quiet_lit (by kernel_rfl) (by kernel_rfl) ?_; refine WQ.of ?_; (repeat (refine WQ.step (fun K hK => ?_); go_simp; first | (refine hK _ ?_; clear hK K) | (apply Exists.intro; refine ⟨fun _ => ?_, hK _ ?_⟩; ((go_at_call 76; exact l00Same_q A A' m m' c c' ps ps' w hs hs' hm hm' _ HPS.out _)); clear hK K))); refine WQ.nil ?_; intro _ hw'; obtain ⟨nq, hw''⟩ := hw'; subst hw'') | go_quiet ((go_at_call 76; exact l00Same_q A A' m m' c c' ps ps' w hs hs' hm hm' _ HPS.out _))
            go_wp2_with fail
            go_ret
            exact ⟨by rw [HE.out]; rfl, belowDrewN (Below.refl _ _) _⟩
          case pos =>
            subst g_v
            by_cases g_b : b = b'
            case neg =>
              have q_b : (b == b') = false := beq_eq_false_iff_ne.2 g_b
              have HE : Hid (sameSlotR ⟨u, ps, p, d, v, b⟩ ⟨u, ps', p, d, v, b'⟩ = false) := by unfold Hid sameSlotR; simp [q_b]
              clear hq g_b
              go_enter Try.func50, Try.ntmps50
              go_wp2_with fail
              first | (refine wp_region_quiet_lit (by kernel_rfl) (by kernel_rfl) ?_; refine WQ.of ?_; (repeat (refine WQ.step (fun K hK => ?_); go_simp; first | (refine hK _ ?_; clear hK K) | (apply Exists.intro; refine ⟨fun _ => ?_, hK _ ?_⟩; ((go_at_call 76; exact l00Same_q A A' m m' c c' ps ps' w hs hs' hm hm' _ HPS.out _)); clear hK K))); refine WQ.nil ?_; intro _ hw'; obtain ⟨nq, hw''⟩ := hw'; subst hw'') | go_quiet ((go_at_call 76; exact l00Same_q A A' m m' c c' ps ps' w hs hs' hm hm' _ HPS.out _))
              go_wp2_with fail
              go_ret
              exact ⟨by rw [HE.out]; rfl, belowDrewN (Below.refl _ _) _⟩
            case pos =>
              subst g_b
              have HE : Hid (sameSlotR ⟨u, ps, p, d, v, b⟩ ⟨u, ps', p, d, v, b⟩ = true) := by unfold Hid sameSlotR; simp [hq]
              clear hq
              go_enter Try.func50, Try.ntmps50
              go_wp2_with fail
              first | (refine wp_region_quiet_lit (by kernel_rfl) (by kernel_rfl) ?_; refine WQ.of ?_; (repeat (refine WQ.step (fun K hK => ?_); go_simp; first | (refine hK _ ?_; clear hK K) | (apply Exists.intro; refine ⟨fun _ => ?_, hK _ ?_⟩; ((go_at_call 76; exact l00Same_q A A' m m' c c' ps ps' w hs hs' hm hm' _ HPS.out _)); clear hK K))); refine WQ.nil ?_; intro _ hw'; obtain ⟨nq, hw''⟩ := hw'; subst hw'') | go_quiet ((go_at_call 76; exact l00Same_q A A' m m' c c' ps ps' w hs hs' hm hm' _ HPS.out _))
              go_wp2_with fail
              go_ret
              exact ⟨by rw [HE.out]; rfl, belowDrewN (Below.refl _ _) _⟩
def sameSs (ss ss' : List SlotR) (n : Nat) : Bool := (List.range n).all fun j => sameSlotR (ss.getD j dS) (ss'.getD j dS)
theorem sameSs_no {ss ss' : List SlotR} {n k : Nat} (hk : k < n) (h : sameSlotR (ss.getD k dS) (ss'.getD k dS) = false) : sameSs ss ss' n = false := by
  rw [sameSs, Bool.eq_false_iff]
  intro hc
  have := List.all_eq_true.1 hc k (List.mem_range.2 hk)
  rw [h] at this
  exact absurd this (by decide)
theorem sameSs_yes {ss ss' : List SlotR} {n : Nat} (h : ∀ k, k < n → sameSlotR (ss.getD k dS) (ss'.getD k dS) = true) : sameSs ss ss' n = true := List.all_eq_true.2 fun k hk => h k (List.mem_range.1 hk)
def fnSameMemory_0 (d d' : MemoryD) : Bool := d.r.same d'.r && decide (d.ss.length = d'.ss.length) && sameSs d.ss d'.ss d.ss.length
set_option maxRecDepth 100000 in
set_option maxHeartbeats 4000000 in
theorem SameMemory_x (cs : List Value) (d : MemoryD) (cs' : List Value) (d' : MemoryD) (w : World) (h : XMemory w cs d) (h' : XMemory w cs' d') (_ : szMemory d ≤ 1048576) (_ : szMemory d' ≤ 1048576) : Calls Try.prog 20 #[.agg cs.toArray, .agg cs'.toArray] w fun e w' => e = .returned (.bool (fnSameMemory_0 d d')) ∧ Below w.heap.size w w' := by
  obtain ⟨A, n, c, rfl, hs, l⟩ := h
  obtain ⟨A', n', c', rfl, hs', l'⟩ := h'
  obtain ⟨q, hq⟩ : ∃ q, fnSameMemory_0 d d' = q := ⟨_, rfl⟩
  have HE : Hid ((d.r.same d'.r && decide (n = n') && sameSs d.ss d'.ss n) = q) := by unfold Hid; rw [← hq, fnSameMemory_0, hs.len, hs'.len]
  have HQ := Lib.hid hq
  clear hq
  rw [HQ.out]
  obtain ⟨r, ss⟩ := d
  obtain ⟨r', ss'⟩ := d'
  simp only at *
  cases g : r.same r'
  case false =>
    obtain rfl : q = false := by rw [← HE.out, g]; rfl
    have hif := ru_no g
    clear g
    go_enter Try.func20, Try.ntmps20
    go_wp2_with fail
    all_goals first | (go_ret; exact ⟨rfl, by (repeat' (first | (with_reducible exact Below.refl _ _) | (with_reducible assumption) | (with_reducible refine Below.alloc ?_ ?_ _) | (with_reducible refine Below.drew ?_) | (with_reducible refine belowDrewN ?_ _) | (with_reducible refine Below.setCell ?_ ?_ _) | (with_reducible refine Below.via (by with_reducible assumption) ?_ ?_) | (with_reducible refine Below.viaD (by with_reducible assumption) ?_ ?_) | (with_reducible exact Below.size (by with_reducible assumption)) | go_size | (with_reducible refine Nat.le_trans ?_ (Below.size (by with_reducible assumption))) | (with_reducible refine Nat.le_trans ?_ (sizeAlloc _ _)) | (with_reducible refine Nat.le_trans ?_ (sizeSet _ _ _)) | (with_reducible refine Nat.le_trans ?_ (sizeDrew _))))⟩) | (exfalso; revert hif; simp [*])
  case true =>
    obtain rfl := ru_eq g
    clear g
    by_cases hn : n = n'
    case neg =>
      obtain rfl : q = false := by rw [← HE.out, decide_eq_false hn]; simp
      have hn1 : ((n : Int) != n') = true := by simp; omega
      go_enter Try.func20, Try.ntmps20
      go_wp2_with fail
      go_ret
      exact ⟨rfl, by (repeat' (first | (with_reducible exact Below.refl _ _) | (with_reducible assumption) | (with_reducible refine Below.alloc ?_ ?_ _) | (with_reducible refine Below.drew ?_) | (with_reducible refine belowDrewN ?_ _) | (with_reducible refine Below.setCell ?_ ?_ _) | (with_reducible refine Below.via (by with_reducible assumption) ?_ ?_) | (with_reducible refine Below.viaD (by with_reducible assumption) ?_ ?_) | (with_reducible exact Below.size (by with_reducible assumption)) | go_size | (with_reducible refine Nat.le_trans ?_ (Below.size (by with_reducible assumption))) | (with_reducible refine Nat.le_trans ?_ (sizeAlloc _ _)) | (with_reducible refine Nat.le_trans ?_ (sizeSet _ _ _)) | (with_reducible refine Nat.le_trans ?_ (sizeDrew _))))⟩
    case pos =>
      subst hn
      have HN : Hid (∀ k, k < n → sameSlotR (ss.getD k dS) (ss'.getD k dS) = false → q = false) := fun k hk hf => by rw [← HE.out, sameSs_no hk hf]; simp
      have HA : Hid ((∀ k, k < n → sameSlotR (ss.getD k dS) (ss'.getD k dS) = true) → q = true) := fun hf => by rw [← HE.out, sameSs_yes hf]; simp [Ru.same]
      clear HE
      have HS := Lib.hid hs
      have HS' := Lib.hid hs'
      clear hs hs'
      go_enter Try.func20, Try.ntmps20
      go_wp2_with fail
      go_loopw [23] (fun i wr => ∃ k : Nat, k ≤ n ∧ i = .int .i64 k ∧ Hid (∀ j, j < k → sameSlotR (ss.getD j dS) (ss'.getD j dS) = true) ∧ Keeps w wr [(w.heap.size + 1, #[.int .i64 r.p, .int .i64 r.s, .bool r.st, .bool r.sk, .bool r.re, .bool r.fe, .bool r.ag, .int .i64 r.ca, .int .i64 r.sl, .slice A' n c']), (w.heap.size, #[.int .i64 r.p, .int .i64 r.s, .bool r.st, .bool r.sk, .bool r.re, .bool r.fe, .bool r.ag, .int .i64 r.ca, .int .i64 r.sl, .slice A n c])]) (fun i _ => n - (intOf i).toNat)
      case atStart => exact ⟨0, Nat.zero_le _, rfl, fun j hj => absurd hj (by omega), ((Keeps.nil w).box (g := w.heap.size) (by simp) _ _).box (g := w.heap.size + 1) (by simp) _ _⟩
      case round =>
        obtain ⟨k, hk, rfl, hpre, hkp⟩ := hrel
        have HK := Lib.hid hkp
        obtain ⟨hbl, ⟨kl1, kc1⟩, ⟨kl0, kc0⟩, _⟩ := hkp
        by_cases hlt : k < n
        · obtain ⟨b, off, u0, l0, p0, d0, v0, b0, A1, m, c1, rfl, hb', HL, hat, hsl, hm⟩ := (HS.out.later hbl).row hlt
          obtain ⟨b2, off2, u2, l2, p2, d2, v2, b2', A2, m2, c2, rfl, hb2', HL2, hat2, hsl2, hm2⟩ := (HS'.out.later hbl).row hlt
          have HO : Hid (sameSlotR (ss.getD k dS) (ss'.getD k dS) = sameSlotR ⟨u0, l0, p0, d0, v0, b0⟩ ⟨u2, l2, p2, d2, v2, b2'⟩) := by unfold Hid; rw [HL.out, HL2.out]
          obtain ⟨x0, x1, x2, x3, x4, x5⟩ := hat
          obtain ⟨y0, y1, y2, y3, y4, y5⟩ := hat2
          have S1 := Lib.hid hsl
          have S2 := Lib.hid hsl2
          have HB := Lib.hid hbl
          clear hsl hsl2 hbl
          cases g3 : sameSlotR ⟨u0, l0, p0, d0, v0, b0⟩ ⟨u2, l2, p2, d2, v2, b2'⟩
          case false =>
            obtain rfl : q = false := HN.out k hlt (HO.out.trans g3)
            have G3 := Lib.hid g3
            clear g3
            go_wp2_with fail
            go_region_with (go_at_call 52; refine (sameSlot_any _ _ l0 l2 _ _ _ _ _ _ _ _ _ _ _ _ _ _ _ ?_ ?_ hm hm2).mono ?_; (first | exact S1.out | exact S1.out.drew | exact S1.out.drewN _); (first | exact S2.out | exact S2.out.drew | exact S2.out.drewN _); rw [G3.out]; rintro e w1 ⟨rfl, hb1⟩; have hbu := Below.undrew hb1; clear hb1)
            all_goals
              go_wp2_with fail
              go_ret
              exact ⟨rfl, Below.via hbu HB.out HB.out.size⟩
          case true =>
            have G3 := Lib.hid g3
            clear g3
            go_wp2_with fail
            go_region_with (go_at_call 52; refine (sameSlot_any _ _ l0 l2 _ _ _ _ _ _ _ _ _ _ _ _ _ _ _ ?_ ?_ hm hm2).mono ?_; (first | exact S1.out | exact S1.out.drew | exact S1.out.drewN _); (first | exact S2.out | exact S2.out.drew | exact S2.out.drewN _); rw [G3.out]; rintro e w1 ⟨rfl, hb1⟩; have hbu := Below.undrew hb1; clear hb1)
            all_goals
              go_wp2_with fail
              go_roundw
              case rel =>
                refine ⟨k + 1, by omega, by go_num, fun j hj => ?_, HK.out.later hbu⟩
                rcases Nat.lt_or_ge j k with h | h
                · exact hpre.out j h
                · obtain rfl : j = k := by omega
                  exact HO.out.trans G3.out
              case measure => first | (simp [intOf]; done) | (simp [intOf]; omega)
        · obtain rfl : k = n := by omega
          obtain rfl : q = true := HA.out hpre.out
          go_wp2
          go_ret
          exact ⟨rfl, hbl⟩
set_option maxRecDepth 100000 in
set_option maxHeartbeats 4000000 in
theorem sSameMemory_x (cs : List Value) (d : MemoryD) (cs' : List Value) (d' : MemoryD) (w : World) (h : XMemory w cs d) (h' : XMemory w cs' d') (_ : szMemory d ≤ 1048576) (_ : szMemory d' ≤ 1048576) : Calls Try.prog 18 #[.agg cs.toArray, .agg cs'.toArray] w fun e w' => e = .returned (.bool (fnSameMemory_0 d d')) ∧ Below w.heap.size w w' := by
  obtain ⟨A, n, c, rfl, hs, l⟩ := h
  obtain ⟨A', n', c', rfl, hs', l'⟩ := h'
  obtain ⟨q, hq⟩ : ∃ q, fnSameMemory_0 d d' = q := ⟨_, rfl⟩
  have HE : Hid ((d.r.same d'.r && decide (n = n') && sameSs d.ss d'.ss n) = q) := by unfold Hid; rw [← hq, fnSameMemory_0, hs.len, hs'.len]
  have HQ := Lib.hid hq
  clear hq
  rw [HQ.out]
  obtain ⟨r, ss⟩ := d
  obtain ⟨r', ss'⟩ := d'
  simp only at *
  cases g : r.same r'
  case false =>
    obtain rfl : q = false := by rw [← HE.out, g]; rfl
    have hif := ru_no g
    clear g
    go_enter Try.func18, Try.ntmps18
    go_wp2_with fail
    all_goals first | (go_ret; exact ⟨rfl, by (repeat' (first | (with_reducible exact Below.refl _ _) | (with_reducible assumption) | (with_reducible refine Below.alloc ?_ ?_ _) | (with_reducible refine Below.drew ?_) | (with_reducible refine belowDrewN ?_ _) | (with_reducible refine Below.setCell ?_ ?_ _) | (with_reducible refine Below.via (by with_reducible assumption) ?_ ?_) | (with_reducible refine Below.viaD (by with_reducible assumption) ?_ ?_) | (with_reducible exact Below.size (by with_reducible assumption)) | go_size | (with_reducible refine Nat.le_trans ?_ (Below.size (by with_reducible assumption))) | (with_reducible refine Nat.le_trans ?_ (sizeAlloc _ _)) | (with_reducible refine Nat.le_trans ?_ (sizeSet _ _ _)) | (with_reducible refine Nat.le_trans ?_ (sizeDrew _))))⟩) | (exfalso; revert hif; simp [*])
  case true =>
    obtain rfl := ru_eq g
    clear g
    by_cases hn : n = n'
    case neg =>
      obtain rfl : q = false := by rw [← HE.out, decide_eq_false hn]; simp
      have hn1 : ((n : Int) != n') = true := by simp; omega
      go_enter Try.func18, Try.ntmps18
      go_wp2_with fail
      go_ret
      exact ⟨rfl, by (repeat' (first | (with_reducible exact Below.refl _ _) | (with_reducible assumption) | (with_reducible refine Below.alloc ?_ ?_ _) | (with_reducible refine Below.drew ?_) | (with_reducible refine belowDrewN ?_ _) | (with_reducible refine Below.setCell ?_ ?_ _) | (with_reducible refine Below.via (by with_reducible assumption) ?_ ?_) | (with_reducible refine Below.viaD (by with_reducible assumption) ?_ ?_) | (with_reducible exact Below.size (by with_reducible assumption)) | go_size | (with_reducible refine Nat.le_trans ?_ (Below.size (by with_reducible assumption))) | (with_reducible refine Nat.le_trans ?_ (sizeAlloc _ _)) | (with_reducible refine Nat.le_trans ?_ (sizeSet _ _ _)) | (with_reducible refine Nat.le_trans ?_ (sizeDrew _))))⟩
    case pos =>
      subst hn
      have HN : Hid (∀ k, k < n → sameSlotR (ss.getD k dS) (ss'.getD k dS) = false → q = false) := fun k hk hf => by rw [← HE.out, sameSs_no hk hf]; simp
      have HA : Hid ((∀ k, k < n → sameSlotR (ss.getD k dS) (ss'.getD k dS) = true) → q = true) := fun hf => by rw [← HE.out, sameSs_yes hf]; simp [Ru.same]
      clear HE
      have HS := Lib.hid hs
      have HS' := Lib.hid hs'
      clear hs hs'
      go_enter Try.func18, Try.ntmps18
      go_wp2_with fail
      go_loopw [5] (fun i wr => ∃ k : Nat, k ≤ n ∧ i = .int .i64 k ∧ Hid (∀ j, j < k → sameSlotR (ss.getD j dS) (ss'.getD j dS) = true) ∧ Keeps w wr [(w.heap.size + 1, #[.int .i64 r.p, .int .i64 r.s, .bool r.st, .bool r.sk, .bool r.re, .bool r.fe, .bool r.ag, .int .i64 r.ca, .int .i64 r.sl, .slice A' n c']), (w.heap.size, #[.int .i64 r.p, .int .i64 r.s, .bool r.st, .bool r.sk, .bool r.re, .bool r.fe, .bool r.ag, .int .i64 r.ca, .int .i64 r.sl, .slice A n c])]) (fun i _ => n - (intOf i).toNat)
      case atStart => exact ⟨0, Nat.zero_le _, rfl, fun j hj => absurd hj (by omega), ((Keeps.nil w).box (g := w.heap.size) (by simp) _ _).box (g := w.heap.size + 1) (by simp) _ _⟩
      case round =>
        obtain ⟨k, hk, rfl, hpre, hkp⟩ := hrel
        have HK := Lib.hid hkp
        obtain ⟨hbl, ⟨kl1, kc1⟩, ⟨kl0, kc0⟩, _⟩ := hkp
        by_cases hlt : k < n
        · obtain ⟨b, off, u0, l0, p0, d0, v0, b0, A1, m, c1, rfl, hb', HL, hat, hsl, hm⟩ := (HS.out.later hbl).row hlt
          obtain ⟨b2, off2, u2, l2, p2, d2, v2, b2', A2, m2, c2, rfl, hb2', HL2, hat2, hsl2, hm2⟩ := (HS'.out.later hbl).row hlt
          have HO : Hid (sameSlotR (ss.getD k dS) (ss'.getD k dS) = sameSlotR ⟨u0, l0, p0, d0, v0, b0⟩ ⟨u2, l2, p2, d2, v2, b2'⟩) := by unfold Hid; rw [HL.out, HL2.out]
          have T1 := Lib.hid hat
          have T2 := Lib.hid hat2
          have S1 := Lib.hid hsl
          have S2 := Lib.hid hsl2
          have HB := Lib.hid hbl
          clear hsl hsl2 hbl hat hat2
          cases g3 : sameSlotR ⟨u0, l0, p0, d0, v0, b0⟩ ⟨u2, l2, p2, d2, v2, b2'⟩
          case false =>
            obtain rfl : q = false := HN.out k hlt (HO.out.trans g3)
            have G3 := Lib.hid g3
            clear g3
            go_wp2_with fail
            go_region_with (go_at_call 50; refine (l16Same_any _ _ _ _ ⟨u0, l0, p0, d0, v0, b0⟩ ⟨u2, l2, p2, d2, v2, b2'⟩ _ _ _ _ _ _ _ (T1.out.drewN 1) (T2.out.drewN 1) (S1.out.drewN 1) (S2.out.drewN 1) hm hm2).mono ?_; rw [G3.out]; rintro e w1 ⟨rfl, hb1⟩; have hbu := Below.undrew hb1; clear hb1)
            all_goals
              go_wp2_with fail
              go_ret
              exact ⟨rfl, Below.via hbu HB.out HB.out.size⟩
          case true =>
            have G3 := Lib.hid g3
            clear g3
            go_wp2_with fail
            go_region_with (go_at_call 50; refine (l16Same_any _ _ _ _ ⟨u0, l0, p0, d0, v0, b0⟩ ⟨u2, l2, p2, d2, v2, b2'⟩ _ _ _ _ _ _ _ (T1.out.drewN 1) (T2.out.drewN 1) (S1.out.drewN 1) (S2.out.drewN 1) hm hm2).mono ?_; rw [G3.out]; rintro e w1 ⟨rfl, hb1⟩; have hbu := Below.undrew hb1; clear hb1)
            all_goals
              go_wp2_with fail
              go_roundw
              case rel =>
                refine ⟨k + 1, by omega, by go_num, fun j hj => ?_, HK.out.later hbu⟩
                rcases Nat.lt_or_ge j k with h | h
                · exact hpre.out j h
                · obtain rfl : j = k := by omega
                  exact HO.out.trans G3.out
              case measure => first | (simp [intOf]; done) | (simp [intOf]; omega)
        · obtain rfl : k = n := by omega
          obtain rfl : q = true := HA.out hpre.out
          go_wp2
          go_ret
          exact ⟨rfl, hbl⟩
end Go.Proofs.Ytpcenpedbdenmaa
