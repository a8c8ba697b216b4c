/- Go's stable sort at this seat: the blocks. Conditions: elements of one cell, at most 100. -/
import Derived.Test.YteeplmnjipddaaaSym2d
import Derived.Test.YteeplmnjipddaaaSortF
namespace Go.Proofs.Yteeplmnjipddaaa
set_option linter.unusedSimpArgs false
set_option linter.unusedVariables false
open Go.Shelf Go.RowKit Go.Lib Go.Sort

theorem KpB.sortWorld {α : Type} [Inhabited α] (enc : α → Value) (W : World) (blk off m : Nat) (d : Array α) (os : Array Obj) (hblk : blk < W.heap.size) : KpB blk W (sortWorld enc W blk off m d os) := by
  refine ⟨fun b o hb hne => ?_, ?_⟩
  · unfold Go.Proofs.sortWorld
    rw [← putRow_grow enc (Sort.ahead W m) os blk off d hblk, cell?_putRow_other _ _ blk off d _ (Or.inl hne), cell?_grow _ _ _ hb]
    rfl
  · unfold Go.Proofs.sortWorld
    rw [size_grow, size_putRow]; show W.heap.size ≤ W.heap.size + _; omega
theorem ins_any {α : Type} [Inhabited α] {gl : Nat} {lb : Array Value} {sf : Nat} {sb : Array Value} {enc : α → Value} {lt lt2 : α → α → Bool} {ap : α → α → Prop} {blk off n : Nat} {w0 : World} (S : Srt Try.prog gl lb sf sb enc lt blk off n w0) (hO : SWO lt2) (hap : ∀ x y, ap x y → lt y x = lt2 y x) (a b : Nat) (d : Array α) (W : World) (hab : a ≤ b) (hbn : b ≤ n) (hd : d.size = n) (hSW : SW enc w0 blk off d W) (hx : ∀ x y, a ≤ x → x < y → y < b → ap d[x]! d[y]!) :
    Calls Try.prog 82 #[.agg #[.func (.func gl) #[] lb, .func (.func sf) #[] sb], .int .i64 a, .int .i64 b] W (SymQ enc lt2 blk off n a b w0 d W) := by
  obtain ⟨d0, h0, hs0⟩ := S.d0
  have hn := S.n40
  have L15 : LaysGt.n15 Try.prog Try.laysGt8_ren := { Try.laysGt8 with }
  have LI : LaysGg.n26 Try.prog (Ren.viaGt Try.laysGt8_ren) := ({ L15 with } : LaysGt.n29 Try.prog Try.laysGt8_ren).elder
  have hl := hSW.lessReads S.less S.hblk hd
  have hw := S.swap
  have hH := hSW.holds S.hblk h0 (by omega)
  have h := Any.insertionSort_func_w LI enc lt gl lb sf sb blk off a b d W S.eg (by rw [hd]; exact hl) (by rw [hd]; exact hw) hH (hSW.lt S.hblk) hab (by omega) (by omega)
  change Calls Try.prog 82 _ _ _ at h
  refine h.mono ?_
  rintro e w' ⟨rfl, m, os, rfl⟩
  obtain ⟨p, s⟩ := ins_apart hap hO hab (by omega) hx
  exact ⟨rfl, KpB.sortWorld enc W blk off m _ os (hSW.lt S.hblk), _, hSW.on S.hblk m _ os p.1, p.1.trans hd, p, s⟩
set_option maxRecDepth 100000 in
set_option maxHeartbeats 1600000 in
theorem stable_any {α : Type} [Inhabited α] {gl : Nat} {lb : Array Value} {sf : Nat} {sb : Array Value} {enc : α → Value} {lt lt2 : α → α → Bool} {ap : α → α → Prop} {blk off n : Nat} {w0 : World} (S : Srt Try.prog gl lb sf sb enc lt blk off n w0) (hO : SWO lt2) (hap : ∀ x y, ap x y → lt y x = lt2 y x) (h100 : n ≤ 100) (d : Array α) (W : World) (hd : d.size = n) (hSW : SW enc w0 blk off d W) (hx : ∀ i j, i < j → j < n → ap d[i]! d[j]!) :
    Calls Try.prog 58 #[.agg #[.func (.func gl) #[] lb, .func (.func sf) #[] sb], .int .i64 n] W (SymQ enc lt2 blk off n 0 n w0 d W) := by
  have HS := Lib.hid S
  have HO := Lib.hid hO
  have HAP := Lib.hid hap
  have HW := Lib.hid (hSW.alloc (.cells #[.func (.func gl) #[] lb, .func (.func sf) #[] sb] 93))
  have HD := Lib.hid hd
  have HX := Lib.hid (blocks_start (lt := lt2) hx)
  have hne : W.heap.size ≠ blk := by have := hSW.lt S.hblk; omega
  have HNE := Lib.hid hne
  clear S hO hap hSW hd hx hne
  go_enter Try.func58, Try.ntmps58
  go_wp2
  go_loopw [5, 6] (fun v u wr => ∃ (a b : Nat) (d' : Array α), Hid (a % 20 = 0 ∧ b = a + 20) ∧ a ≤ n ∧ b ≤ 120 ∧ v = .int .i64 a ∧ u = .int .i64 b ∧ KpB blk (W.alloc (.cells #[.func (.func gl) #[] lb, .func (.func sf) #[] sb] 93)) wr ∧ SW enc w0 blk off d' wr ∧ d'.size = n ∧ PermIn 0 n d d' ∧ Blocks lt2 ap (bI n a) n d') (fun v _ _ => n - (intOf v).toNat)
  case atStart => exact ⟨0, 20, d, ⟨rfl, rfl⟩, Nat.zero_le _, by omega, rfl, rfl, KpB.refl _ _, HW.out, HD.out, permIn_refl _ _ _, HX.out⟩
  case round =>
    obtain ⟨a, b, d', HA, han, hb120, rfl, rfl, hk, hsw, hd', hp, hbl⟩ := hrel
    rename World => wo
    have H1 := Lib.hid (And.intro hsw (And.intro hd' (And.intro hp hbl)))
    have HK := Lib.hid hk
    have c0 : wo.cell? ⟨W.heap.size, 0, none⟩ = some (.func (.func gl) #[] lb) := (hk.1 _ _ (by simp) HNE.out).trans (by simp)
    have c1 : wo.cell? ⟨W.heap.size, 1, none⟩ = some (.func (.func sf) #[] sb) := (hk.1 _ _ (by simp) HNE.out).trans (by simp)
    clear hk hsw hd' hp hbl
    by_cases hlt : b ≤ n
    · have hwb : IntKind.i64.wrap ((b : Int) + 20) = ((b + 20 : Nat) : Int) := by rw [IntWalk.i64_in _ (by omega)]; omega
      go_wp2_with fail
      refine (ins_any HS.out HO.out HAP.out a b d' wo (by have := HA.out; omega) hlt H1.out.2.1 H1.out.1 (fun x y h1 h2 h3 => blocks_apart H1.out.2.2.2 x y h1 h2 (by omega))).mono ?_
      rintro e w1 ⟨rfl, hk1, d1, hs1, hd1, hp1, hso1⟩
      have H2 := Lib.hid (And.intro (HK.out.trans hk1) (And.intro hs1 (And.intro hd1 (And.intro (permIn_trans _ _ _ _ _ H1.out.2.2.1 (permIn_mono _ _ a b 0 n (Nat.zero_le _) hlt (by have := H1.out.2.1; omega) hp1))
        (blocks_ins H1.out.2.2.2 hp1 hso1 hlt (by have := H1.out.2.1; omega) HA.out.1 (by have := HA.out; omega) (by have := HA.out; omega))))))
      clear hk1 hs1 hd1 hp1 hso1
      go_wp2_with fail
      go_roundw
      case rel => exact ⟨b, b + 20, d1, ⟨by have := HA.out; omega, rfl⟩, hlt, by omega, rfl, by first | rfl | go_num, H2.out.1, H2.out.2.1, H2.out.2.2.1, H2.out.2.2.2.1, H2.out.2.2.2.2⟩
      case measure => have := HA.out; first | (simp [intOf]; done) | (simp [intOf]; omega)
    · go_wp2_with fail
      refine (ins_any HS.out HO.out HAP.out a n d' wo han (Nat.le_refl _) H1.out.2.1 H1.out.1 (fun x y h1 h2 h3 => blocks_apart H1.out.2.2.2 x y h1 h2 h3)).mono ?_
      rintro e w1 ⟨rfl, hk1, d1, hs1, hd1, hp1, hso1⟩
      have H2 := Lib.hid (And.intro (HK.out.trans hk1) (And.intro hs1 (And.intro hd1 (And.intro (permIn_trans _ _ _ _ _ H1.out.2.2.1 (permIn_mono _ _ a n 0 n (Nat.zero_le _) (Nat.le_refl _) (by have := H1.out.2.1; omega) hp1))
        (blocks_first (blocks_ins H1.out.2.2.2 hp1 hso1 (Nat.le_refl _) (by have := H1.out.2.1; omega) HA.out.1 han (by have := HA.out; omega)))))))
      clear hk1 hs1 hd1 hp1 hso1 c0 c1 hlt hb120
      go_wp2_with fail
      go_loopw [4, 5, 6] (fun v x y wr => ∃ (s : Nat) (d' : Array α) (x0 y0 : Int), Hid (s = 20 ∨ s = 40 ∨ s = 80 ∨ s = 160) ∧ v = .int .i64 s ∧ x = .int .i64 x0 ∧ y = .int .i64 y0 ∧ KpB blk (W.alloc (.cells #[.func (.func gl) #[] lb, .func (.func sf) #[] sb] 93)) wr ∧ SW enc w0 blk off d' wr ∧ d'.size = n ∧ PermIn 0 n d d' ∧ Blocks lt2 ap (bM s 0) n d') (fun v _ _ _ => n - (intOf v).toNat)
      case atStart => exact ⟨20, d1, _, _, .inl rfl, rfl, rfl, rfl, H2.out.1, H2.out.2.1, H2.out.2.2.1, H2.out.2.2.2.1, H2.out.2.2.2.2⟩
      case round =>
        obtain ⟨s, d2, x0, y0, HS4, rfl, rfl, rfl, hk, hsw, hd', hp, hbl⟩ := hrel
        rename World => w2
        have H3 := Lib.hid (And.intro hsw (And.intro hd' (And.intro hp hbl)))
        have HK2 := Lib.hid hk
        clear hk hsw hd' hp hbl
        by_cases hlt : s < n
        · have HS3 : Hid (s = 20 ∨ s = 40 ∨ s = 80) := by have := HS4.out; exact Lib.hid (by omega)
          have hs0 : 20 ≤ s := by have := HS3.out; omega
          have hs1 : s ≤ 80 := by have := HS3.out; omega
          obtain ⟨t, ht⟩ : ∃ t, 2 * s = t := ⟨_, rfl⟩
          have HT := Lib.hid ht
          have ht1 : t ≤ 160 := by omega
          have hw1 : IntKind.i64.wrap (2 * (s : Int)) = (t : Int) := by rw [IntWalk.i64_in _ (by omega)]; omega
          have hw2 : IntKind.i64.wrap ((s : Int) * 2) = (t : Int) := by rw [IntWalk.i64_in _ (by omega)]; omega
          clear ht
          go_wp2_with fail
          go_loopw [5, 6] (fun v u wr => ∃ (a b : Nat) (d' : Array α), Hid (a % (2 * s) = 0 ∧ b = a + 2 * s) ∧ a ≤ n ∧ b ≤ 300 ∧ v = .int .i64 a ∧ u = .int .i64 b ∧ KpB blk (W.alloc (.cells #[.func (.func gl) #[] lb, .func (.func sf) #[] sb] 93)) wr ∧ SW enc w0 blk off d' wr ∧ d'.size = n ∧ PermIn 0 n d d' ∧ Blocks lt2 ap (bM s a) n d') (fun v _ _ => n - (intOf v).toNat)
          case atStart => exact ⟨0, t, d2, ⟨Nat.zero_mod _, by have := HT.out; omega⟩, Nat.zero_le _, by omega, rfl, rfl, HK2.out, H3.out.1, H3.out.2.1, H3.out.2.2.1, H3.out.2.2.2⟩
          case round =>
            obtain ⟨a, b, d3, HA, han, hb300, rfl, rfl, hk, hsw, hd', hp, hbl⟩ := hrel
            rename World => w3
            have H4 := Lib.hid (And.intro hsw (And.intro hd' (And.intro hp hbl)))
            have HK3 := Lib.hid hk
            have c0 : w3.cell? ⟨W.heap.size, 0, none⟩ = some (.func (.func gl) #[] lb) := (hk.1 _ _ (by simp) HNE.out).trans (by simp)
            have c1 : w3.cell? ⟨W.heap.size, 1, none⟩ = some (.func (.func sf) #[] sb) := (hk.1 _ _ (by simp) HNE.out).trans (by simp)
            clear hk hsw hd' hp hbl
            obtain ⟨m, hm⟩ : ∃ m, a + s = m := ⟨_, rfl⟩
            have HM := Lib.hid hm
            have hwm : IntKind.i64.wrap ((a : Int) + (s : Int)) = (m : Int) := by rw [IntWalk.i64_in _ (by omega)]; omega
            have hmb : m < b := by have := HA.out; omega
            have ham : a < m := by omega
            clear hm
            by_cases hlb : b ≤ n
            · obtain ⟨b', hb'⟩ : ∃ b', b + t = b' := ⟨_, rfl⟩
              have HB' := Lib.hid hb'
              have hwb : IntKind.i64.wrap ((b : Int) + (t : Int)) = (b' : Int) := by rw [IntWalk.i64_in _ (by omega)]; omega
              have hb3 : b' ≤ 300 := by omega
              clear hb'
              go_wp2_with fail
              refine (symMerge_any HS.out HO.out HAP.out n a m b d3 w3 (by omega) ham hmb hlb H4.out.2.1 H4.out.1 (by have h := blocks_pre HS3.out H4.out.2.2.2 HA.out.1 (show a + s < b by have := HA.out; omega) (by have := HA.out; omega) hlb; rwa [HM.out] at h)).mono ?_
              rintro e w4 ⟨rfl, hk1, d4, hs4, hd4, hp4, hso4⟩
              have H5 := Lib.hid (And.intro (HK3.out.trans hk1) (And.intro hs4 (And.intro hd4 (And.intro (permIn_trans _ _ _ _ _ H4.out.2.2.1 (permIn_mono _ _ a b 0 n (Nat.zero_le _) hlb (by have := H4.out.2.1; omega) hp4))
                (blocks_merge HS3.out H4.out.2.2.2 hp4 hso4 HA.out.1 (show a + s < b by have := HA.out; omega) (.inl HA.out.2) hlb (by have := H4.out.2.1; omega))))))
              clear hk1 hs4 hd4 hp4 hso4
              go_wp2_with fail
              go_roundw
              case rel =>
                have hA := HA.out
                have h5 := H5.out
                rw [← hA.2] at h5
                exact ⟨b, b', d4, ⟨by rw [hA.2, Nat.add_mod_right]; exact hA.1, by have := HB'.out; have := HT.out; omega⟩, hlb, hb3, rfl, by first | rfl | go_num, h5.1, h5.2.1, h5.2.2.1, h5.2.2.2.1, h5.2.2.2.2⟩
              case measure => have := HA.out; first | (simp [intOf]; done) | (simp [intOf]; omega)
            · by_cases hmn : m < n
              · go_wp2_with fail
                refine (symMerge_any HS.out HO.out HAP.out n a m n d3 w3 (by omega) ham hmn (Nat.le_refl _) H4.out.2.1 H4.out.1 (by have h := blocks_pre HS3.out H4.out.2.2.2 HA.out.1 (show a + s < n by have := HM.out; omega) (by have := HA.out; omega) (Nat.le_refl _); rwa [HM.out] at h)).mono ?_
                rintro e w4 ⟨rfl, hk1, d4, hs4, hd4, hp4, hso4⟩
                have H5 := Lib.hid (And.intro (HK3.out.trans hk1) (And.intro hs4 (And.intro hd4 (And.intro (permIn_trans _ _ _ _ _ H4.out.2.2.1 (permIn_mono _ _ a n 0 n (Nat.zero_le _) (Nat.le_refl _) (by have := H4.out.2.1; omega) hp4))
                  (blocks_merge HS3.out H4.out.2.2.2 hp4 hso4 HA.out.1 (show a + s < n by have := HM.out; omega) (.inr ⟨rfl, by have := HA.out; omega⟩) (Nat.le_refl _) (by have := H4.out.2.1; omega))))))
                clear hk1 hs4 hd4 hp4 hso4
                go_wp2_with fail
                go_roundw
                case rel =>
                  have hA := HA.out
                  have h5 := H5.out
                  have hT := HT.out
                  have hb := blocks_next HS3.out h5.2.2.2.2 (by rw [Nat.add_mod_right]; exact hA.1) (by omega)
                  rw [hT] at hb
                  exact ⟨t, d4, _, _, by have := HS3.out; exact Lib.hid (by omega), by first | rfl | go_num, rfl, rfl, h5.1, h5.2.1, h5.2.2.1, h5.2.2.2.1, hb⟩
                case measure => have := HT.out; first | (simp [intOf]; done) | (simp [intOf]; omega)
              · clear c0 c1
                go_wp2_with fail
                go_roundw
                case rel =>
                  have hA := HA.out
                  have hT := HT.out
                  have hM := HM.out
                  have h5 := H4.out
                  have hb := blocks_next HS3.out h5.2.2.2 hA.1 (by omega)
                  rw [hT] at hb
                  exact ⟨t, d3, _, _, by have := HS3.out; exact Lib.hid (by omega), by first | rfl | go_num, rfl, rfl, HK3.out, h5.1, h5.2.1, h5.2.2.1, hb⟩
                case measure => have := HT.out; first | (simp [intOf]; done) | (simp [intOf]; omega)
        · go_wp2_with fail
          go_end0
          have h := H3.out
          exact ⟨rfl, ((KpB.refl blk W).alloc _).trans HK2.out, d2, h.1, h.2.1, h.2.2.1, blocks_end HS4.out h.2.2.2 (by omega)⟩
end Go.Proofs.Yteeplmnjipddaaa
