/- Go's stable sort at this seat: a merge of two longer parts, by what smaller merges do. Conditions: elements of one cell, at most 1000000. -/
import Derived.Test.YteeplmnjipddaaaDoorG19
import Derived.Deep.DeepCutAuto
namespace Go.Proofs.YteeplmnjipddaaaDoor
set_option linter.unusedSimpArgs false
set_option linter.unusedVariables false
open Go.Shelf Go.RowKit Go.Lib Go.Sort

set_option maxRecDepth 100000 in
set_option maxHeartbeats 1600000 in
theorem symMerge_c {α : Type} [Inhabited α] {gl : Nat} {lb : Array Value} {sf : Nat} {sb : Array Value} {enc : α → Value} {lt lt2 : α → α → Bool} {ap : α → α → Prop} {blk off n : Nat} {w0 : World} (S : Srt Tryd.prog gl lb sf sb enc lt blk off n w0) (hO : SWO lt2) (hap : ∀ x y, ap x y → lt y x = lt2 y x) (a m b : Nat) (d : Array α) (W : World) (ham : a < m) (hmb : m < b) (hbn : b ≤ n) (hd : d.size = n) (hSW : SW enc w0 blk off d W) (hP : Pre lt2 ap a m b d) {K : Nat} (hK : b - a ≤ K + 1) (hone : ¬ m - a = 1) (htwo : ¬ b - m = 1) (IH0 : ∀ (a m b : Nat) (d : Array α) (W : World), b - a ≤ K → a < m → m < b → b ≤ n → d.size = n → SW enc w0 blk off d W → Pre lt2 ap a m b d → Calls Tryd.prog 61 #[.agg #[.func (.func gl) #[] lb, .func (.func sf) #[] sb], .int .i64 a, .int .i64 m, .int .i64 b] W (SymQ enc lt2 blk off n a b w0 d W)) :
    Calls Tryd.prog 61 #[.agg #[.func (.func gl) #[] lb, .func (.func sf) #[] sb], .int .i64 a, .int .i64 m, .int .i64 b] W (SymQ enc lt2 blk off n a b w0 d W) := by
  have IH := Lib.hid IH0
  clear IH0
  have HS := Lib.hid S
  have HW := Lib.hid (hSW.alloc (.cells #[.func (.func gl) #[] lb, .func (.func sf) #[] sb] 74))
  have HD := Lib.hid hd
  have HP := Lib.hid hP
  have HO := Lib.hid hO
  have HAP : Hid (∀ i j, a ≤ i → i < m → m ≤ j → j < b → lt d[j]! d[i]! = lt2 d[j]! d[i]!) := fun i j h1 h2 h3 h4 => hap _ _ (hP.x i j h1 h2 h3 h4)
  have hn := S.n40
  have eg := S.eg
  have hne : W.heap.size ≠ blk := by have := hSW.lt S.hblk; omega
  have HNE := Lib.hid hne
  have hw1 : IntKind.i64.wrap ((m : Int) - (a : Int)) = ((m - a : Nat) : Int) := by rw [IntWalk.i64_in _ (by omega)]; omega
  have hw2 : IntKind.i64.wrap ((b : Int) - (m : Int)) = ((b - m : Nat) : Int) := by rw [IntWalk.i64_in _ (by omega)]; omega
  clear S hO hap hSW hd hP hne
  have hq1 : (((m - a : Nat) : Int) == 1) = false := by rw [beq_eq_false_iff_ne]; omega
  have hq2 : (((b - m : Nat) : Int) == 1) = false := by rw [beq_eq_false_iff_ne]; omega
  obtain ⟨mid, hmid⟩ : ∃ x, (a + b) / 2 = x := ⟨_, rfl⟩
  obtain ⟨nn, hnn⟩ : ∃ x, mid + m = x := ⟨_, rfl⟩
  obtain ⟨p, hp⟩ : ∃ x, nn - 1 = x := ⟨_, rfl⟩
  obtain ⟨s0, r0, hcase⟩ : ∃ s0 r0, (mid < m ∧ s0 = nn - b ∧ r0 = mid) ∨ (m ≤ mid ∧ s0 = a ∧ r0 = m) := by
    by_cases h : mid < m
    · exact ⟨_, _, Or.inl ⟨h, rfl, rfl⟩⟩
    · exact ⟨_, _, Or.inr ⟨by omega, rfl, rfl⟩⟩
  obtain ⟨m1, m2, m3⟩ := mid_w (by omega) hmid
  have hw3 : IntKind.i64.wrap ((mid : Int) + (m : Int)) = (nn : Int) := by rw [IntWalk.i64_in _ (by omega)]; omega
  have hw4 : IntKind.i64.wrap ((nn : Int) - 1) = (p : Int) := by rw [IntWalk.i64_in _ (by omega)]; omega
  have hw5 : mid < m → IntKind.i64.wrap ((nn : Int) - (b : Int)) = (s0 : Int) := fun h => by rw [IntWalk.i64_in _ (by omega)]; omega
  have f1 : a ≤ s0 := by omega
  have f2 : s0 ≤ r0 := by omega
  have f3 : r0 ≤ m := by omega
  have f4 : mid < b := by omega
  have f5 : a < mid := by omega
  have HN2 : Hid (mid + m = nn ∧ nn - 1 = p) := ⟨hnn, hp⟩
  have HC := Lib.hid hcase
  have F4 : Hid (∀ c, s0 ≤ c → c < r0 → m ≤ p - c ∧ p - c < b ∧ c ≤ p) := fun c h1 h2 => by omega
  have F5 : Hid (∀ s, s0 ≤ s → s ≤ r0 → s ≤ nn ∧ s ≤ mid ∧ m ≤ nn - s ∧ nn - s ≤ b ∧ mid = s + (nn - s - m) ∧ (s = s0 → nn - s = b ∨ s = a) ∧ (s = r0 → nn - s = m ∨ s = m)) := fun s h1 h2 => by omega
  have hcm : (mid < m ∧ s0 = nn - b ∧ r0 = mid) ∨ (m ≤ mid ∧ s0 = a ∧ r0 = m) := hcase
  clear hone htwo hmid hnn hp hcase
  have HGW := Lib.hid hw5
  clear hw5 hcm
  go_enter Tryd.func61, Tryd.ntmps61
  go_upto_if 106 with fail
  go_cut [18, 19] (fun s18 s19 wx => s18 = .int .i64 s0 ∧ s19 = .int .i64 r0 ∧ wx = (W.alloc (.cells #[.func (.func gl) #[] lb, .func (.func sf) #[] sb] 74)))
  case first =>
    by_cases hgt : mid < m
    · have hw6 := HGW.out hgt
      go_wp2_with fail
      go_meet
      exact ⟨rfl, by congr 1; have := HC.out; omega, rfl⟩
    · go_wp2_with fail
      go_meet
      exact ⟨by congr 1; have := HC.out; omega, by congr 1; have := HC.out; omega, rfl⟩
  case rest =>
    obtain ⟨rfl, rfl, rfl⟩ := hcut
    go_wp2_with fail
    go_loopw [18, 19] (fun v u wr => ∃ s r : Nat, s0 ≤ s ∧ s ≤ r ∧ r ≤ r0 ∧ v = .int .i64 s ∧ u = .int .i64 r ∧ Hid ((s0 < s → lt2 d[p - (s - 1)]! d[s - 1]! = false) ∧ (r < r0 → lt2 d[p - r]! d[r]! = true)) ∧ KpB blk (W.alloc (.cells #[.func (.func gl) #[] lb, .func (.func sf) #[] sb] 74)) wr ∧ SW enc w0 blk off d wr) (fun v u _ => (intOf u).toNat - (intOf v).toNat)
    case atStart => exact ⟨s0, r0, Nat.le_refl _, f2, Nat.le_refl _, rfl, rfl, ⟨fun h => absurd h (by omega), fun h => absurd h (by omega)⟩, KpB.refl _ _, HW.out⟩
    case round =>
      obtain ⟨s, r, hs0, hsr, hrr, rfl, rfl, hcc, hk, hsw⟩ := hrel
      rename World => wo
      have HSW := Lib.hid hsw
      have HK := Lib.hid hk
      have c0 : wo.cell? ⟨W.heap.size, 0, none⟩ = some (.func (.func gl) #[] lb) := (hk.1 _ _ (by simp) HNE.out).trans (by simp)
      have c1 : wo.cell? ⟨W.heap.size, 1, none⟩ = some (.func (.func sf) #[] sb) := (hk.1 _ _ (by simp) HNE.out).trans (by simp)
      clear hk hsw
      by_cases hlt : s < r
      · obtain ⟨h, hh⟩ : ∃ h, (s + r) / 2 = h := ⟨_, rfl⟩
        obtain ⟨n1, n2, n3⟩ := mid_w (by omega) hh
        have hih : s ≤ h := by omega
        have hhj : h < r := by omega
        obtain ⟨g1, g2, g3⟩ := F4.out h (by omega) (by omega)
        have hl := HS.out.lessAt HSW.out HD.out (show p - h < n by omega) (show h < n by omega)
        rw [HAP.out h (p - h) (by omega) (by omega) g1 g2] at hl
        have hwp : IntKind.i64.wrap ((p : Int) - (h : Int)) = ((p - h : Nat) : Int) := by rw [IntWalk.i64_in _ (by omega)]; omega
        clear hh
        cases hlv : lt2 d[p - h]! d[h]!
        case true =>
          rw [hlv] at hl
          have HLV := Lib.hid hlv
          clear hlv
          go_wp2_with (go_at_fn gl; refine hl.mono ?_; rintro e w' ⟨rfl, q, rfl⟩)
          go_roundw
          case rel => exact ⟨s, h, hs0, hih, by omega, rfl, rfl, ⟨hcc.out.1, fun _ => HLV.out⟩, HK.out.drewN q, HSW.out.drewN q⟩
          case measure => simp [intOf]; omega
        case false =>
          rw [hlv] at hl
          have HLV := Lib.hid hlv
          clear hlv
          go_wp2_with (go_at_fn gl; refine hl.mono ?_; rintro e w' ⟨rfl, q, rfl⟩)
          go_roundw
          case rel => exact ⟨h + 1, r, by omega, by omega, hrr, by go_num, rfl, ⟨fun _ => HLV.out, hcc.out.2⟩, HK.out.drewN q, HSW.out.drewN q⟩
          case measure => simp [intOf]; omega
      · obtain rfl : r = s := by omega
        obtain ⟨e, he⟩ : ∃ e, nn - r = e := ⟨_, rfl⟩
        obtain ⟨g1, g2, g3, g4, g5, g6, g7⟩ := F5.out r hs0 hrr
        have hwe : IntKind.i64.wrap ((nn : Int) - (r : Int)) = (e : Int) := by rw [IntWalk.i64_in _ (by have := HN2.out; omega)]; omega
        rw [he] at g3 g4 g5 g6 g7
        have C1 := Lib.hid (cut_c1 HO.out HP.out (show r ≤ m by omega) g3 (fun h1 h2 => by
          have h3 : s0 < r := by
            rcases Nat.lt_or_ge s0 r with h | h
            · exact h
            · have := g6 (by omega); omega
          have h4 := hcc.out.1 h3
          rwa [show p - (r - 1) = e by have := HN2.out; omega] at h4))
        have C2 := Lib.hid (cut_c2 HO.out HP.out (show a ≤ r by omega) g4 (fun h1 h2 => by
          have h3 : r < r0 := by
            rcases Nat.lt_or_ge r r0 with h | h
            · exact h
            · have := g7 (by omega); omega
          have h4 := hcc.out.2 h3
          rwa [show p - r = e - 1 by have := HN2.out; omega] at h4))
        have G5 := Lib.hid g5
        clear hcc he g5 g6 g7
        obtain ⟨t145, ht145⟩ : ∃ t, decide (r < m ∧ m < e) = t := ⟨_, rfl⟩
        have Ht145 := Lib.hid ht145
        clear ht145
        go_upto_region 40 with fail
        go_cut [22, 145] (fun s22 s145 wx => s22 = .int .i64 e ∧ s145 = .bool t145 ∧ wx = wo)
        case first =>
          by_cases hx1 : r < m
          · by_cases hx2 : m < e
            · go_wp2_with fail
              go_meet
              exact ⟨rfl, by rw [← Ht145.out, decide_eq_true (And.intro hx1 hx2)], rfl⟩
            · go_wp2_with fail
              go_meet
              exact ⟨rfl, by rw [← Ht145.out, decide_eq_false (fun h => hx2 h.2)], rfl⟩
          · go_wp2_with fail
            go_meet
            exact ⟨rfl, by rw [← Ht145.out, decide_eq_false (fun h => hx1 h.1)], rfl⟩
        case rest =>
        obtain ⟨rfl, rfl, rfl⟩ := hcut
        rename World => wo
        go_upto_if 145 with fail
        go_cut [22] (fun s22 wx => s22 = .int .i64 e ∧ ∃ d1, KpB blk (W.alloc (.cells #[.func (.func gl) #[] lb, .func (.func sf) #[] sb] 74)) wx ∧ SW enc w0 blk off d1 wx ∧ d1.size = n ∧ Rot r m e d d1 ∧ PermIn r e d d1)
        case first =>
          cases t145
          case true =>
            obtain ⟨hr1, hr2⟩ := of_decide_eq_true Ht145.out
            go_wp2_with fail
            refine (rotate_any HS.out r m e d HD.out hr1 hr2 (by omega) wo HSW.out).mono ?_
            rintro e_ w1 ⟨rfl, hk1, d1, hs1, hd1, hx1, hp1⟩
            have H1 := Lib.hid (And.intro (HK.out.trans hk1) (And.intro hs1 (And.intro hd1 (And.intro hx1 hp1))))
            clear hk1 hs1 hd1 hx1 hp1
            go_wp2_with fail
            go_meet
            exact ⟨rfl, d1, H1.out⟩
          case false =>
            have hr1 := of_decide_eq_false Ht145.out
            have hr2 : r = m ∨ m = e := by omega
            have HR2 := Lib.hid hr2
            clear hr1 hr2
            go_wp2_with fail
            go_meet
            exact ⟨rfl, d, HK.out, HSW.out, HD.out, Rot.none d HR2.out (by omega) g3, permIn_refl d r e⟩
        case rest =>
          obtain ⟨rfl, d1, h1⟩ := hcut
          rename World => w1
          have H1 := Lib.hid h1
          clear h1 c0 c1
          have HB2 := Lib.hid (HP.out.cut H1.out.2.2.2.1 (show a ≤ r by omega) (show r ≤ m by omega) g3 g4 G5.out C1.out C2.out)
          have k0 : w1.cell? ⟨W.heap.size, 0, none⟩ = some (.func (.func gl) #[] lb) := (H1.out.1.1 _ _ (by simp) HNE.out).trans (by simp)
          have k1 : w1.cell? ⟨W.heap.size, 1, none⟩ = some (.func (.func sf) #[] sb) := (H1.out.1.1 _ _ (by simp) HNE.out).trans (by simp)
          obtain ⟨t158, ht158⟩ : ∃ t, decide (a < r ∧ r < mid) = t := ⟨_, rfl⟩
          have Ht158 := Lib.hid ht158
          clear ht158
          go_upto_region 42 with fail
          go_cut [22, 158] (fun s22 s158 wx => s22 = .int .i64 e ∧ s158 = .bool t158 ∧ wx = w1)
          case first =>
            by_cases hx1 : a < r
            · by_cases hx2 : r < mid
              · go_wp2_with fail
                go_meet
                exact ⟨rfl, by rw [← Ht158.out, decide_eq_true (And.intro hx1 hx2)], rfl⟩
              · go_wp2_with fail
                go_meet
                exact ⟨rfl, by rw [← Ht158.out, decide_eq_false (fun h => hx2 h.2)], rfl⟩
            · go_wp2_with fail
              go_meet
              exact ⟨rfl, by rw [← Ht158.out, decide_eq_false (fun h => hx1 h.1)], rfl⟩
          case rest =>
          obtain ⟨rfl, rfl, rfl⟩ := hcut
          rename World => w1
          go_upto_if 158 with fail
          go_cut [22] (fun s22 wx => s22 = .int .i64 e ∧ ∃ d2, KpB blk (W.alloc (.cells #[.func (.func gl) #[] lb, .func (.func sf) #[] sb] 74)) wx ∧ SW enc w0 blk off d2 wx ∧ d2.size = n ∧ PermIn a mid d1 d2 ∧ SortedIn lt2 a mid d2)
          case first =>
            cases t158
            case true =>
              obtain ⟨ha1, ha2⟩ := of_decide_eq_true Ht158.out
              go_wp2_with fail
              refine (IH.out a r mid d1 w1 (by omega) ha1 ha2 (by omega) H1.out.2.2.1 H1.out.2.1 HB2.out.1).mono ?_
              rintro e_ w2 ⟨rfl, hk2, d2, hs2, hd2, hp2, hso2⟩
              have H2 := Lib.hid (And.intro (H1.out.1.trans hk2) (And.intro hs2 (And.intro hd2 (And.intro hp2 hso2))))
              clear hk2 hs2 hd2 hp2 hso2
              go_wp2_with fail
              go_meet
              exact ⟨rfl, d2, H2.out⟩
            case false =>
              have ha1 := of_decide_eq_false Ht158.out
              have ha2 : r = a ∨ r = mid := by omega
              have HA2 := Lib.hid ha2
              clear ha1 ha2
              go_wp2_with fail
              go_meet
              exact ⟨rfl, d1, H1.out.1, H1.out.2.1, H1.out.2.2.1, permIn_refl d1 a mid, HB2.out.1.one HA2.out⟩
          case rest =>
            obtain ⟨rfl, d2, h2⟩ := hcut
            rename World => w2
            have H2 := Lib.hid h2
            clear h2 k0 k1
            have l0 : w2.cell? ⟨W.heap.size, 0, none⟩ = some (.func (.func gl) #[] lb) := (H2.out.1.1 _ _ (by simp) HNE.out).trans (by simp)
            have l1 : w2.cell? ⟨W.heap.size, 1, none⟩ = some (.func (.func sf) #[] sb) := (H2.out.1.1 _ _ (by simp) HNE.out).trans (by simp)
            have HP2 := Lib.hid (HB2.out.2.1.same (d' := d2) (fun k h1 h2 => H2.out.2.2.2.1.2.1 k (Or.inr h1)) (by have := G5.out; omega) g4)
            have FIN : Hid (∀ w3 d3, KpB blk (W.alloc (.cells #[.func (.func gl) #[] lb, .func (.func sf) #[] sb] 74)) w3 → SW enc w0 blk off d3 w3 → d3.size = n → PermIn mid b d2 d3 → SortedIn lt2 mid b d3 → SymQ enc lt2 blk off n a b w0 d W (.returned (.tuple #[])) w3) := fun w3 d3 q1 q2 q3 q4 q5 => by
              have j := join_sorted HB2.out.2.2 H2.out.2.2.2.1 H2.out.2.2.2.2 q4 q5 (by omega) (by omega) (by have := H1.out.2.2.1; omega)
              exact ⟨rfl, ((KpB.refl blk W).alloc _).trans q1, d3, q2, q3, permIn_trans _ _ _ _ _ (permIn_mono _ _ r e a b (by omega) g4 (by have := HD.out; omega) H1.out.2.2.2.2) j.1, j.2⟩
            by_cases hB : mid < e ∧ e < b
            · obtain ⟨hb1, hb2⟩ := hB
              go_wp2_with fail
              refine (IH.out mid e b d2 w2 (by omega) hb1 hb2 hbn H2.out.2.2.1 H2.out.2.1 HP2.out).mono ?_
              rintro e_ w3 ⟨rfl, hk3, d3, hs3, hd3, hp3, hso3⟩
              have H3 := Lib.hid (And.intro (H2.out.1.trans hk3) (And.intro hs3 (And.intro hd3 (And.intro hp3 hso3))))
              clear hk3 hs3 hd3 hp3 hso3
              go_wp2_with fail
              go_end0
              exact FIN.out w3 d3 H3.out.1 H3.out.2.1 H3.out.2.2.1 H3.out.2.2.2.1 H3.out.2.2.2.2
            · rcases (show ¬ mid < e ∨ (mid < e ∧ ¬ e < b) by omega) with hb1 | ⟨hb1, hb2⟩
              all_goals
                go_wp2_with fail
                go_end0
                exact FIN.out w2 d2 H2.out.1 H2.out.2.1 H2.out.2.2.1 (permIn_refl d2 mid b) (HP2.out.one (show e = mid ∨ e = b by have := G5.out; omega))
end Go.Proofs.YteeplmnjipddaaaDoor
