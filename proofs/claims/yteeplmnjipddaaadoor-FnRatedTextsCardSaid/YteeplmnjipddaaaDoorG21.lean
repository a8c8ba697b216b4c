/- Players by their points, by the program: the closure and the library's stable sort. Conditions: at most 12 players. -/
import Derived.Test.YteeplmnjipddaaaDoorG19
import Derived.Test.YteeplmnjipddaaaDoorG20
import Derived.Test.YteeplmnjipddaaaDoorProg
import Derived.Shelf.GgSortMore.Stable
import Derived.Test.YteeplmnjipddaaaDoorG18
import Derived.Deep.QuietTactic
/- Go's stable sort at this seat: merges. Conditions: elements of one cell, at most 1000000. -/
namespace Go.Proofs.YteeplmnjipddaaaDoor
set_option linter.unusedSimpArgs false
set_option linter.unusedVariables false
open Go.Shelf Go.RowKit Go.Lib Go.Sort

theorem symMerge_any {α : Type} [Inhabited α] {gl : Nat} {lb : Array Value} {sf : Nat} {sb : Array Value} {enc : α → Value} {lt lt2 : α → α → Bool} {ap : α → α → Prop} {blk off n : Nat} {w0 : World} (S : Srt Tryd.prog gl lb sf sb enc lt blk off n w0) (hO : SWO lt2) (hap : ∀ x y, ap x y → lt y x = lt2 y x) :
    ∀ (K a m b : Nat) (d : Array α) (W : World), b - a ≤ K → a < m → m < b → b ≤ n → d.size = n → SW enc w0 blk off d W → Pre lt2 ap a m b d →
      Calls Tryd.prog 61 #[.agg #[.func (.func gl) #[] lb, .func (.func sf) #[] sb], .int .i64 a, .int .i64 m, .int .i64 b] W (SymQ enc lt2 blk off n a b w0 d W)
  | 0, a, m, b, d, W, hK, ham, hmb, _, _, _, _ => by omega
  | K + 1, a, m, b, d, W, hK, ham, hmb, hbn, hd, hSW, hP => by
    by_cases hone : m - a = 1
    · exact symMerge_a S hO hap a m b d W ham hmb hbn hd hSW hP hone
    · by_cases htwo : b - m = 1
      · exact symMerge_b S hO hap a m b d W ham hmb hbn hd hSW hP hone htwo
      · exact symMerge_c S hO hap a m b d W ham hmb hbn hd hSW hP hK hone htwo (symMerge_any S hO hap K)
end Go.Proofs.YteeplmnjipddaaaDoor
/- The stable sort by the library: the shelf at this seat (written by the kit tool lay-plain). -/
namespace Go.Proofs.YteeplmnjipddaaaDoor
set_option linter.unusedSimpArgs false
set_option linter.unusedVariables false
open Go.Shelf
def Tryd.laysGt8_ren : Go.Shelf.Ren := ⟨fun | 8 => 29 | 13 => 45 | 14 => 46 | 16 => 48 | 15 => 47 | 29 => 60 | 30 => 61 | 42 => 66 | 49 => 72 | n => n, fun | 20 => 20 | 26 => 52 | 36 => 68 | 0 => 0 | 38 => 70 | 42 => 74 | 3 => 3 | 4 => 4 | 47 => 85 | 17 => 17 | 33 => 65 | 34 => 66 | 89 => 115 | 12 => 12 | 56 => 95 | 82 => 108 | 5 => 5 | 83 => 109 | 84 => 110 | 85 => 111 | 86 => 112 | 87 => 113 | n => n, fun | n => n⟩
theorem Tryd.laysGt8 : Go.Proofs.LaysGt.n8 Tryd.prog Tryd.laysGt8_ren := {
  mixed := by kernel_rfl
  f8 := Tryd.func29.trans (congrArg some (by kernel_rfl))
  f13 := Tryd.func45.trans (congrArg some (by kernel_rfl))
  f14 := Tryd.func46.trans (congrArg some (by kernel_rfl))
  f15 := Tryd.func47.trans (congrArg some (by kernel_rfl))
  f16 := Tryd.func48.trans (congrArg some (by kernel_rfl))
  f29 := Tryd.func60.trans (congrArg some (by kernel_rfl))
  f30 := Tryd.func61.trans (congrArg some (by kernel_rfl))
  f42 := Tryd.func66.trans (congrArg some (by kernel_rfl))
  f49 := Tryd.func72.trans (congrArg some (by kernel_rfl))
  t0 := Tryd.underlying0
  a0 := Tryd.isAgg0
  z0 := Tryd.sizeOf0
  v0 := Tryd.zeroValue0
  i0 := by kernel_rfl
  t3 := Tryd.underlying3
  a3 := Tryd.isAgg3
  z3 := Tryd.sizeOf3
  v3 := Tryd.zeroValue3
  i3 := by kernel_rfl
  t4 := Tryd.underlying4
  a4 := Tryd.isAgg4
  z4 := Tryd.sizeOf4
  v4 := Tryd.zeroValue4
  i4 := by kernel_rfl
  t5 := Tryd.underlying5
  a5 := Tryd.isAgg5
  z5 := Tryd.sizeOf5
  v5 := Tryd.zeroValue5
  i5 := by kernel_rfl
  t12 := Tryd.underlying12
  a12 := Tryd.isAgg12
  z12 := Tryd.sizeOf12
  v12 := Tryd.zeroValue12
  i12 := by kernel_rfl
  t17 := Tryd.underlying17
  a17 := Tryd.isAgg17
  z17 := Tryd.sizeOf17
  v17 := Tryd.zeroValue17
  i17 := by kernel_rfl
  t20 := Tryd.underlying20
  a20 := Tryd.isAgg20
  z20 := Tryd.sizeOf20
  v20 := Tryd.zeroValue20
  i20 := by kernel_rfl
  t26 := Tryd.underlying52
  a26 := Tryd.isAgg52
  z26 := Tryd.sizeOf52
  v26 := Tryd.zeroValue52
  i26 := by kernel_rfl
  t33 := Tryd.underlying65
  a33 := Tryd.isAgg65
  z33 := Tryd.sizeOf65
  v33 := Tryd.zeroValue65
  i33 := by kernel_rfl
  t34 := Tryd.underlying66
  a34 := Tryd.isAgg66
  z34 := Tryd.sizeOf66
  v34 := Tryd.zeroValue66
  i34 := by kernel_rfl
  t36 := Tryd.underlying68
  a36 := Tryd.isAgg68
  z36 := Tryd.sizeOf68
  v36 := Tryd.zeroValue68
  i36 := by kernel_rfl
  t38 := Tryd.underlying70
  a38 := Tryd.isAgg70
  z38 := Tryd.sizeOf70
  v38 := Tryd.zeroValue70
  i38 := by kernel_rfl
  t42 := Tryd.underlying74
  a42 := Tryd.isAgg74
  z42 := Tryd.sizeOf74
  v42 := Tryd.zeroValue74
  i42 := by kernel_rfl
  t47 := Tryd.underlying85
  a47 := Tryd.isAgg85
  z47 := Tryd.sizeOf85
  v47 := Tryd.zeroValue85
  i47 := by kernel_rfl
  t56 := Tryd.underlying95
  a56 := Tryd.isAgg95
  z56 := Tryd.sizeOf95
  v56 := Tryd.zeroValue95
  i56 := by kernel_rfl
  t82 := Tryd.underlying108
  a82 := Tryd.isAgg108
  z82 := Tryd.sizeOf108
  v82 := Tryd.zeroValue108
  i82 := by kernel_rfl
  t83 := Tryd.underlying109
  a83 := Tryd.isAgg109
  z83 := Tryd.sizeOf109
  v83 := Tryd.zeroValue109
  i83 := by kernel_rfl
  t84 := Tryd.underlying110
  a84 := Tryd.isAgg110
  z84 := Tryd.sizeOf110
  v84 := Tryd.zeroValue110
  i84 := by kernel_rfl
  t85 := Tryd.underlying111
  a85 := Tryd.isAgg111
  z85 := Tryd.sizeOf111
  v85 := Tryd.zeroValue111
  i85 := by kernel_rfl
  t86 := Tryd.underlying112
  a86 := Tryd.isAgg112
  z86 := Tryd.sizeOf112
  v86 := Tryd.zeroValue112
  i86 := by kernel_rfl
  t87 := Tryd.underlying113
  a87 := Tryd.isAgg113
  z87 := Tryd.sizeOf113
  v87 := Tryd.zeroValue113
  i87 := by kernel_rfl
  t89 := Tryd.underlying115
  a89 := Tryd.isAgg115
  z89 := Tryd.sizeOf115
  v89 := Tryd.zeroValue115
  i89 := by kernel_rfl }
end Go.Proofs.YteeplmnjipddaaaDoor
/- Go's stable sort at this seat: the blocks. Conditions: elements of one cell, at most 100. -/
namespace Go.Proofs.YteeplmnjipddaaaDoor
set_option linter.unusedSimpArgs false
set_option linter.unusedVariables false
open Go.Shelf Go.RowKit Go.Lib Go.Sort

theorem KpB.sortWorld {α : Type} [Inhabited α] (enc : α → Value) (W : World) (blk off m : Nat) (d : Array α) (os : Array Obj) (hblk : blk < W.heap.size) : KpB blk W (sortWorld enc W blk off m d os) := by
  refine ⟨fun b o hb hne => ?_, ?_⟩
  · unfold Go.Proofs.sortWorld
    rw [← putRow_grow enc (Sort.ahead W m) os blk off d hblk, cell?_putRow_other _ _ blk off d _ (Or.inl hne), cell?_grow _ _ _ hb]
    rfl
  · unfold Go.Proofs.sortWorld
    rw [Go.Sort.size_grow, size_putRow]; show W.heap.size ≤ W.heap.size + _; omega
theorem ins_any {α : Type} [Inhabited α] {gl : Nat} {lb : Array Value} {sf : Nat} {sb : Array Value} {enc : α → Value} {lt lt2 : α → α → Bool} {ap : α → α → Prop} {blk off n : Nat} {w0 : World} (S : Srt Tryd.prog gl lb sf sb enc lt blk off n w0) (hO : SWO lt2) (hap : ∀ x y, ap x y → lt y x = lt2 y x) (a b : Nat) (d : Array α) (W : World) (hab : a ≤ b) (hbn : b ≤ n) (hd : d.size = n) (hSW : SW enc w0 blk off d W) (hx : ∀ x y, a ≤ x → x < y → y < b → ap d[x]! d[y]!) :
    Calls Tryd.prog 60 #[.agg #[.func (.func gl) #[] lb, .func (.func sf) #[] sb], .int .i64 a, .int .i64 b] W (SymQ enc lt2 blk off n a b w0 d W) := by
  obtain ⟨d0, h0, hs0⟩ := S.d0
  have hn := S.n40
  have L15 : LaysGt.n15 Tryd.prog Tryd.laysGt8_ren := { Tryd.laysGt8 with }
  have LI : LaysGg.n26 Tryd.prog (Ren.viaGt Tryd.laysGt8_ren) := ({ L15 with } : LaysGt.n29 Tryd.prog Tryd.laysGt8_ren).elder
  have hl := hSW.lessReads S.less S.hblk hd
  have hw := S.swap
  have hH := hSW.holds S.hblk h0 (by omega)
  have h := Any.insertionSort_func_w LI enc lt gl lb sf sb blk off a b d W S.eg (by rw [hd]; exact hl) (by rw [hd]; exact hw) hH (hSW.lt S.hblk) hab (by omega) (by omega)
  change Calls Tryd.prog 60 _ _ _ at h
  refine h.mono ?_
  rintro e w' ⟨rfl, m, os, rfl⟩
  obtain ⟨p, s⟩ := ins_apart hap hO hab (by omega) hx
  exact ⟨rfl, KpB.sortWorld enc W blk off m _ os (hSW.lt S.hblk), _, hSW.on S.hblk m _ os p.1, p.1.trans hd, p, s⟩
set_option maxRecDepth 100000 in
set_option maxHeartbeats 1600000 in
theorem stable_any {α : Type} [Inhabited α] {gl : Nat} {lb : Array Value} {sf : Nat} {sb : Array Value} {enc : α → Value} {lt lt2 : α → α → Bool} {ap : α → α → Prop} {blk off n : Nat} {w0 : World} (S : Srt Tryd.prog gl lb sf sb enc lt blk off n w0) (hO : SWO lt2) (hap : ∀ x y, ap x y → lt y x = lt2 y x) (h100 : n ≤ 100) (d : Array α) (W : World) (hd : d.size = n) (hSW : SW enc w0 blk off d W) (hx : ∀ i j, i < j → j < n → ap d[i]! d[j]!) :
    Calls Tryd.prog 47 #[.agg #[.func (.func gl) #[] lb, .func (.func sf) #[] sb], .int .i64 n] W (SymQ enc lt2 blk off n 0 n w0 d W) := by
  have HS := Lib.hid S
  have HO := Lib.hid hO
  have HAP := Lib.hid hap
  have HW := Lib.hid (hSW.alloc (.cells #[.func (.func gl) #[] lb, .func (.func sf) #[] sb] 74))
  have HD := Lib.hid hd
  have HX := Lib.hid (blocks_start (lt := lt2) hx)
  have hne : W.heap.size ≠ blk := by have := hSW.lt S.hblk; omega
  have HNE := Lib.hid hne
  clear S hO hap hSW hd hx hne
  go_enter Tryd.func47, Tryd.ntmps47
  go_wp2
  go_loopw [5, 6] (fun v u wr => ∃ (a b : Nat) (d' : Array α), Hid (a % 20 = 0 ∧ b = a + 20) ∧ a ≤ n ∧ b ≤ 120 ∧ v = .int .i64 a ∧ u = .int .i64 b ∧ KpB blk (W.alloc (.cells #[.func (.func gl) #[] lb, .func (.func sf) #[] sb] 74)) wr ∧ SW enc w0 blk off d' wr ∧ d'.size = n ∧ PermIn 0 n d d' ∧ Blocks lt2 ap (bI n a) n d') (fun v _ _ => n - (intOf v).toNat)
  case atStart => exact ⟨0, 20, d, ⟨rfl, rfl⟩, Nat.zero_le _, by omega, rfl, rfl, KpB.refl _ _, HW.out, HD.out, permIn_refl _ _ _, HX.out⟩
  case round =>
    obtain ⟨a, b, d', HA, han, hb120, rfl, rfl, hk, hsw, hd', hp, hbl⟩ := hrel
    rename World => wo
    have H1 := Lib.hid (And.intro hsw (And.intro hd' (And.intro hp hbl)))
    have HK := Lib.hid hk
    have c0 : wo.cell? ⟨W.heap.size, 0, none⟩ = some (.func (.func gl) #[] lb) := (hk.1 _ _ (by simp) HNE.out).trans (by simp)
    have c1 : wo.cell? ⟨W.heap.size, 1, none⟩ = some (.func (.func sf) #[] sb) := (hk.1 _ _ (by simp) HNE.out).trans (by simp)
    clear hk hsw hd' hp hbl
    by_cases hlt : b ≤ n
    · have hwb : IntKind.i64.wrap ((b : Int) + 20) = ((b + 20 : Nat) : Int) := by rw [IntWalk.i64_in _ (by omega)]; omega
      go_wp2_with fail
      refine (ins_any HS.out HO.out HAP.out a b d' wo (by have := HA.out; omega) hlt H1.out.2.1 H1.out.1 (fun x y h1 h2 h3 => blocks_apart H1.out.2.2.2 x y h1 h2 (by omega))).mono ?_
      rintro e w1 ⟨rfl, hk1, d1, hs1, hd1, hp1, hso1⟩
      have H2 := Lib.hid (And.intro (HK.out.trans hk1) (And.intro hs1 (And.intro hd1 (And.intro (permIn_trans _ _ _ _ _ H1.out.2.2.1 (permIn_mono _ _ a b 0 n (Nat.zero_le _) hlt (by have := H1.out.2.1; omega) hp1))
        (blocks_ins H1.out.2.2.2 hp1 hso1 hlt (by have := H1.out.2.1; omega) HA.out.1 (by have := HA.out; omega) (by have := HA.out; omega))))))
      clear hk1 hs1 hd1 hp1 hso1
      go_wp2_with fail
      go_roundw
      case rel => exact ⟨b, b + 20, d1, ⟨by have := HA.out; omega, rfl⟩, hlt, by omega, rfl, by first | rfl | go_num, H2.out.1, H2.out.2.1, H2.out.2.2.1, H2.out.2.2.2.1, H2.out.2.2.2.2⟩
      case measure => have := HA.out; first | (simp [intOf]; done) | (simp [intOf]; omega)
    · go_wp2_with fail
      refine (ins_any HS.out HO.out HAP.out a n d' wo han (Nat.le_refl _) H1.out.2.1 H1.out.1 (fun x y h1 h2 h3 => blocks_apart H1.out.2.2.2 x y h1 h2 h3)).mono ?_
      rintro e w1 ⟨rfl, hk1, d1, hs1, hd1, hp1, hso1⟩
      have H2 := Lib.hid (And.intro (HK.out.trans hk1) (And.intro hs1 (And.intro hd1 (And.intro (permIn_trans _ _ _ _ _ H1.out.2.2.1 (permIn_mono _ _ a n 0 n (Nat.zero_le _) (Nat.le_refl _) (by have := H1.out.2.1; omega) hp1))
        (blocks_first (blocks_ins H1.out.2.2.2 hp1 hso1 (Nat.le_refl _) (by have := H1.out.2.1; omega) HA.out.1 han (by have := HA.out; omega)))))))
      clear hk1 hs1 hd1 hp1 hso1 c0 c1 hlt hb120
      go_wp2_with fail
      go_loopw [4, 5, 6] (fun v x y wr => ∃ (s : Nat) (d' : Array α) (x0 y0 : Int), Hid (s = 20 ∨ s = 40 ∨ s = 80 ∨ s = 160) ∧ v = .int .i64 s ∧ x = .int .i64 x0 ∧ y = .int .i64 y0 ∧ KpB blk (W.alloc (.cells #[.func (.func gl) #[] lb, .func (.func sf) #[] sb] 74)) wr ∧ SW enc w0 blk off d' wr ∧ d'.size = n ∧ PermIn 0 n d d' ∧ Blocks lt2 ap (bM s 0) n d') (fun v _ _ _ => n - (intOf v).toNat)
      case atStart => exact ⟨20, d1, _, _, .inl rfl, rfl, rfl, rfl, H2.out.1, H2.out.2.1, H2.out.2.2.1, H2.out.2.2.2.1, H2.out.2.2.2.2⟩
      case round =>
        obtain ⟨s, d2, x0, y0, HS4, rfl, rfl, rfl, hk, hsw, hd', hp, hbl⟩ := hrel
        rename World => w2
        have H3 := Lib.hid (And.intro hsw (And.intro hd' (And.intro hp hbl)))
        have HK2 := Lib.hid hk
        clear hk hsw hd' hp hbl
        by_cases hlt : s < n
        · have HS3 : Hid (s = 20 ∨ s = 40 ∨ s = 80) := by have := HS4.out; exact Lib.hid (by omega)
          have hs0 : 20 ≤ s := by have := HS3.out; omega
          have hs1 : s ≤ 80 := by have := HS3.out; omega
          obtain ⟨t, ht⟩ : ∃ t, 2 * s = t := ⟨_, rfl⟩
          have HT := Lib.hid ht
          have ht1 : t ≤ 160 := by omega
          have hw1 : IntKind.i64.wrap (2 * (s : Int)) = (t : Int) := by rw [IntWalk.i64_in _ (by omega)]; omega
          have hw2 : IntKind.i64.wrap ((s : Int) * 2) = (t : Int) := by rw [IntWalk.i64_in _ (by omega)]; omega
          clear ht
          go_wp2_with fail
          go_loopw [5, 6] (fun v u wr => ∃ (a b : Nat) (d' : Array α), Hid (a % (2 * s) = 0 ∧ b = a + 2 * s) ∧ a ≤ n ∧ b ≤ 300 ∧ v = .int .i64 a ∧ u = .int .i64 b ∧ KpB blk (W.alloc (.cells #[.func (.func gl) #[] lb, .func (.func sf) #[] sb] 74)) wr ∧ SW enc w0 blk off d' wr ∧ d'.size = n ∧ PermIn 0 n d d' ∧ Blocks lt2 ap (bM s a) n d') (fun v _ _ => n - (intOf v).toNat)
          case atStart => exact ⟨0, t, d2, ⟨Nat.zero_mod _, by have := HT.out; omega⟩, Nat.zero_le _, by omega, rfl, rfl, HK2.out, H3.out.1, H3.out.2.1, H3.out.2.2.1, H3.out.2.2.2⟩
          case round =>
            obtain ⟨a, b, d3, HA, han, hb300, rfl, rfl, hk, hsw, hd', hp, hbl⟩ := hrel
            rename World => w3
            have H4 := Lib.hid (And.intro hsw (And.intro hd' (And.intro hp hbl)))
            have HK3 := Lib.hid hk
            have c0 : w3.cell? ⟨W.heap.size, 0, none⟩ = some (.func (.func gl) #[] lb) := (hk.1 _ _ (by simp) HNE.out).trans (by simp)
            have c1 : w3.cell? ⟨W.heap.size, 1, none⟩ = some (.func (.func sf) #[] sb) := (hk.1 _ _ (by simp) HNE.out).trans (by simp)
            clear hk hsw hd' hp hbl
            obtain ⟨m, hm⟩ : ∃ m, a + s = m := ⟨_, rfl⟩
            have HM := Lib.hid hm
            have hwm : IntKind.i64.wrap ((a : Int) + (s : Int)) = (m : Int) := by rw [IntWalk.i64_in _ (by omega)]; omega
            have hmb : m < b := by have := HA.out; omega
            have ham : a < m := by omega
            clear hm
            by_cases hlb : b ≤ n
            · obtain ⟨b', hb'⟩ : ∃ b', b + t = b' := ⟨_, rfl⟩
              have HB' := Lib.hid hb'
              have hwb : IntKind.i64.wrap ((b : Int) + (t : Int)) = (b' : Int) := by rw [IntWalk.i64_in _ (by omega)]; omega
              have hb3 : b' ≤ 300 := by omega
              clear hb'
              go_wp2_with fail
              refine (symMerge_any HS.out HO.out HAP.out n a m b d3 w3 (by omega) ham hmb hlb H4.out.2.1 H4.out.1 (by have h := blocks_pre HS3.out H4.out.2.2.2 HA.out.1 (show a + s < b by have := HA.out; omega) (by have := HA.out; omega) hlb; rwa [HM.out] at h)).mono ?_
              rintro e w4 ⟨rfl, hk1, d4, hs4, hd4, hp4, hso4⟩
              have H5 := Lib.hid (And.intro (HK3.out.trans hk1) (And.intro hs4 (And.intro hd4 (And.intro (permIn_trans _ _ _ _ _ H4.out.2.2.1 (permIn_mono _ _ a b 0 n (Nat.zero_le _) hlb (by have := H4.out.2.1; omega) hp4))
                (blocks_merge HS3.out H4.out.2.2.2 hp4 hso4 HA.out.1 (show a + s < b by have := HA.out; omega) (.inl HA.out.2) hlb (by have := H4.out.2.1; omega))))))
              clear hk1 hs4 hd4 hp4 hso4
              go_wp2_with fail
              go_roundw
              case rel =>
                have hA := HA.out
                have h5 := H5.out
                rw [← hA.2] at h5
                exact ⟨b, b', d4, ⟨by rw [hA.2, Nat.add_mod_right]; exact hA.1, by have := HB'.out; have := HT.out; omega⟩, hlb, hb3, rfl, by first | rfl | go_num, h5.1, h5.2.1, h5.2.2.1, h5.2.2.2.1, h5.2.2.2.2⟩
              case measure => have := HA.out; first | (simp [intOf]; done) | (simp [intOf]; omega)
            · by_cases hmn : m < n
              · go_wp2_with fail
                refine (symMerge_any HS.out HO.out HAP.out n a m n d3 w3 (by omega) ham hmn (Nat.le_refl _) H4.out.2.1 H4.out.1 (by have h := blocks_pre HS3.out H4.out.2.2.2 HA.out.1 (show a + s < n by have := HM.out; omega) (by have := HA.out; omega) (Nat.le_refl _); rwa [HM.out] at h)).mono ?_
                rintro e w4 ⟨rfl, hk1, d4, hs4, hd4, hp4, hso4⟩
                have H5 := Lib.hid (And.intro (HK3.out.trans hk1) (And.intro hs4 (And.intro hd4 (And.intro (permIn_trans _ _ _ _ _ H4.out.2.2.1 (permIn_mono _ _ a n 0 n (Nat.zero_le _) (Nat.le_refl _) (by have := H4.out.2.1; omega) hp4))
                  (blocks_merge HS3.out H4.out.2.2.2 hp4 hso4 HA.out.1 (show a + s < n by have := HM.out; omega) (.inr ⟨rfl, by have := HA.out; omega⟩) (Nat.le_refl _) (by have := H4.out.2.1; omega))))))
                clear hk1 hs4 hd4 hp4 hso4
                go_wp2_with fail
                go_roundw
                case rel =>
                  have hA := HA.out
                  have h5 := H5.out
                  have hT := HT.out
                  have hb := blocks_next HS3.out h5.2.2.2.2 (by rw [Nat.add_mod_right]; exact hA.1) (by omega)
                  rw [hT] at hb
                  exact ⟨t, d4, _, _, by have := HS3.out; exact Lib.hid (by omega), by first | rfl | go_num, rfl, rfl, h5.1, h5.2.1, h5.2.2.1, h5.2.2.2.1, hb⟩
                case measure => have := HT.out; first | (simp [intOf]; done) | (simp [intOf]; omega)
              · clear c0 c1
                go_wp2_with fail
                go_roundw
                case rel =>
                  have hA := HA.out
                  have hT := HT.out
                  have hM := HM.out
                  have h5 := H4.out
                  have hb := blocks_next HS3.out h5.2.2.2 hA.1 (by omega)
                  rw [hT] at hb
                  exact ⟨t, d3, _, _, by have := HS3.out; exact Lib.hid (by omega), by first | rfl | go_num, rfl, rfl, HK3.out, h5.1, h5.2.1, h5.2.2.1, hb⟩
                case measure => have := HT.out; first | (simp [intOf]; done) | (simp [intOf]; omega)
        · go_wp2_with fail
          go_end0
          have h := H3.out
          exact ⟨rfl, ((KpB.refl blk W).alloc _).trans HK2.out, d2, h.1, h.2.1, h.2.2.1, blocks_end HS4.out h.2.2.2 (by omega)⟩
end Go.Proofs.YteeplmnjipddaaaDoor
/- Players by their points, by the program: the closure and the library's stable sort. Conditions: at most 12 players. -/
namespace Go.Proofs.YteeplmnjipddaaaDoor
set_option linter.unusedSimpArgs false
set_option linter.unusedVariables false
open Go.Shelf Go.RowKit Go.Lib Go.Sort

noncomputable def siT : TypeInfo := (Tryd.prog.info? 33).get (by kernel_rfl)
noncomputable def siE : TypeInfo := (Tryd.prog.info? 2).get (by kernel_rfl)
theorem siK (n : Nat) (h2 : 2 ≤ n) : Lib.swapperK n siE 6 = 5 := by
  have a : siE.hasPointers = false := by kernel_rfl
  have b : siE.bytes = 8 := by kernel_rfl
  have c : (n == 0) = false := by simp; omega
  have d : (n == 1) = false := by simp; omega
  simp [Lib.swapperK, a, b, c, d]
/-- The places themselves. -/
def finA (n : Nat) : Array (Fin n) := Array.ofFn id
theorem finA_size (n : Nat) : (finA n).size = n := by simp [finA]
theorem finA_at {n : Nat} [Inhabited (Fin n)] {i : Nat} (h : i < n) : (finA n)[i]!.val = i := by
  rw [getElem!_pos _ i (by rw [finA_size]; exact h)]
  simp [finA]
theorem finA_list (n : Nat) : (finA n).toList.map (fun x => ((x.val : Nat) : Int)) = rangeL n := by
  apply List.ext_getElem
  · simp [finA, rangeL]
  · intro i h1 h2
    simp [finA, rangeL]
def encF {n : Nat} (x : Fin n) : Value := .int .i64 (x.val : Int)
def ltFF (F : Int → Int) {n : Nat} (x y : Fin n) : Bool := ltF F x.val y.val
def ltGF (F : Int → Int) {n : Nat} (x y : Fin n) : Bool := ltG F x.val y.val
theorem ltGF_swo (F : Int → Int) (n : Nat) : SWO (ltGF F (n := n)) := by
  have h := ltG_swo F
  exact ⟨fun x => h.irrefl _, fun x y z => h.trans _ _ _, fun x y z => h.ntrans _ _ _⟩
theorem ltFF_ap (F : Int → Int) {n : Nat} (x y : Fin n) (h : x.val < y.val) : ltFF F y x = ltGF F y x := ltF_ap F _ _ (by omega)
/-- A row of the places that is sorted by the whole order is the list of the reference. -/
theorem order_sort {n : Nat} [Inhabited (Fin n)] (F : Int → Int) (d' : Array (Fin n)) (hp : PermIn 0 n (finA n) d') (hs : SortedIn (ltGF F) 0 n d') : ∀ j, j < n → ((d'[j]!.val : Nat) : Int) = (ordL F n).getD j 0 := by
  have hsz : d'.size = n := by rw [hp.1, finA_size]
  have e : ∀ (x : Array (Fin n)), x.size = n → (x.extract 0 n).toList = x.toList := fun x hx => by
    rw [Array.toList_extract]; simp [← hx, List.extract]; exact List.take_of_length_le (by simp)
  have h1 : (d'.toList.map (fun x => ((x.val : Nat) : Int))).Perm (rangeL n) := by
    have h := hp.2.2
    rw [e _ hsz, e _ (finA_size n)] at h
    rw [← finA_list]
    exact h.map _
  have hat : ∀ j, j < n → (d'.toList.map (fun x => ((x.val : Nat) : Int))).getD j 0 = ((d'[j]!.val : Nat) : Int) := fun j hj => by
    rw [getElem!_pos _ j (by omega), List.getD_eq_getElem?_getD, List.getElem?_map]
    simp [hsz, hj]
  have h2 : PermIn 0 n (rangeL n).toArray (d'.toList.map (fun x => ((x.val : Nat) : Int))).toArray := permIn_list (rangeL_len n) h1
  have h3 : SortedIn (ltG F) 0 n (d'.toList.map (fun x => ((x.val : Nat) : Int))).toArray := fun i j h1 h2 h3 => by
    rw [arr_at, arr_at, hat i (by omega), hat j h3]
    exact hs i j h1 h2 h3
  have h4 := sorted_ord h2 h3
  intro j hj
  rw [← hat j hj]
  have h5 : d'.toList.map (fun x => ((x.val : Nat) : Int)) = ordL F n := by
    have := congrArg Array.toList h4
    simpa using this
  rw [h5]
theorem ins_fin (F : Int → Int) {n : Nat} [Inhabited (Fin n)] : ∀ j, j < n → (((insertionSort (ltFF F) (finA n) 0 n)[j]!.val : Nat) : Int) = (ordL F n).getD j 0 := by
  obtain ⟨p, s⟩ := ins_apart (lt := ltFF F (n := n)) (lt2 := ltGF F) (ap := fun x y => x.val < y.val) (fun x y h => ltFF_ap F x y h) (ltGF_swo F n) (a := 0) (b := n) (d := finA n) (Nat.zero_le _) (by rw [finA_size]; exact Nat.le_refl _) (fun x y _ h1 h2 => by rw [finA_at (by omega), finA_at h2]; exact h1)
  exact order_sort F _ p s
/-- A world behind a sort: the row holds other numbers, nothing else turns. -/
theorem sorted_grown {α : Type} [Inhabited α] (enc : α → Value) (w : World) (m blk off : Nat) (d' : Array α) (os : Array Obj) : w.grownBy (grow (putRow enc (Sort.ahead w m) blk off d') os) (some blk) := by
  refine ⟨rfl, rfl, rfl, by rw [Go.Sort.size_grow, size_putRow]; show w.heap.size ≤ w.heap.size + _; omega, fun k hk hne => ?_⟩
  rw [Go.Sort.heap_grow_old _ _ (by rw [size_putRow]; exact hk)]
  show (mapBlock _ _ _).heap[k]? = _
  unfold mapBlock
  rw [Array.getElem?_modify, if_neg (fun e => hne (by rw [e]))]
  rfl
theorem sorted_sl {n : Nat} [Inhabited (Fin n)] (w : World) (m blk off : Nat) (d0 d' : Array (Fin n)) (os : Array Obj) (hH : Holds encF w blk off d0) (hs : d'.size = d0.size) (h0 : d0.size = n) (hblk : blk < w.heap.size) (l : List Int) (hl : l.length = n) (hd : ∀ j, j < n → ((d'[j]!.val : Nat) : Int) = l.getD j 0) :
    Sl (grow (putRow encF (Sort.ahead w m) blk off d') os) w.heap.size 1 (some ⟨blk, off, none⟩) n (l.map (Value.int .i64)) := by
  refine ⟨by simp [hl], fun _ => ⟨blk, off, rfl, hblk, fun j u hu => ?_⟩⟩
  have hj : j < n := by
    rcases Nat.lt_or_ge j n with h | h
    · exact h
    · rw [List.getElem?_eq_none (by simp [hl]; omega)] at hu; cases hu
  rw [cell?_grow _ _ _ (by rw [size_putRow]; exact hblk), cell?_putRow encF _ blk off d0 d' (holds_ahead _ _ _ _ _ _ hH) hs j (by omega)]
  rw [List.getElem?_map, List.getElem?_eq_getElem (by omega)] at hu
  injection hu with hu
  rw [← hu, encF, hd j hj, List.getD_eq_getElem?_getD, List.getElem?_eq_getElem (by omega)]
  rfl
end Go.Proofs.YteeplmnjipddaaaDoor
