/- SameClock: the law. No conditions. -/
import Derived.Test.YtbnccmdbplmmkaaClock5
import Derived.Deep.DeepCutAuto
namespace Go.Proofs.Ytbnccmdbplmmkaa
set_option linter.unusedSimpArgs false
set_option linter.unusedVariables false
open Go.RowKit

theorem Blk.drew_ {w w' : World} {g : Nat} {t : TypeId} {cs : Array Value} (h : Blk w g t cs) (hb : Below w.drew.heap.size w.drew w') : Blk w' g t cs := h.later (Below.undrew hb)
theorem Sl.undrew_ {w w' : World} {size n : Nat} {A : Option Addr} {xs : List Value} (h : Sl w w.heap.size size A n xs) (hb : Below w.drew.heap.size w.drew w') : Sl w' w'.heap.size size A n xs := h.later (Below.undrew hb)
theorem boxed_ (w : World) (o : Obj) : Below w.heap.size w (w.alloc o) := Below.alloc (Below.refl _ _) (Nat.le_refl _) o
theorem Sl.boxed {w : World} {size n : Nat} {A : Option Addr} {xs : List Value} (h : Sl w w.heap.size size A n xs) (o : Obj) : Sl (w.alloc o) (w.alloc o).heap.size size A n xs := h.later (boxed_ w o)
theorem Sl.far {w w' : World} {size n : Nat} {A : Option Addr} {xs : List Value} (h : Sl w w.heap.size size A n xs) (o : Obj) (hb : Below (w.alloc o).heap.size (w.alloc o) w') : Sl w' w'.heap.size size A n xs := (h.boxed o).later hb
theorem Blk.far {w w' : World} {g : Nat} {t : TypeId} {cs : Array Value} (h : Blk w g t cs) (o : Obj) (hb : Below (w.alloc o).heap.size (w.alloc o) w') : Blk w' g t cs := (h.later (boxed_ w o)).later hb
set_option maxRecDepth 100000 in
set_option maxHeartbeats 4000000 in
theorem sc_walk (A : Option Addr) (n c : Nat) (zs : List Int) (inc del pl si : Int) (ru fa : Bool) (A' : Option Addr) (n' c' : Nat) (zs' : List Int) (inc' del' pl' si' : Int) (ru' fa' : Bool) (w : World) (hs : Sl w w.heap.size 1 A n (zs.map (Value.int .i64))) (hn : n ≤ 9223372036854775807) (hs' : Sl w w.heap.size 1 A' n' (zs'.map (Value.int .i64))) (hn' : n' ≤ 9223372036854775807) : Calls Try.prog 5 #[.agg #[.slice A n c, .int .i64 inc, .int .i64 del, .int .i64 pl, .int .i64 si, .bool ru, .bool fa], .agg #[.slice A' n' c', .int .i64 inc', .int .i64 del', .int .i64 pl', .int .i64 si', .bool ru', .bool fa']] w fun e w' => e = .returned (.bool true) ∧ Below w.heap.size w w' := by
  have HLn : Hid (zs.length = n * 1) := by unfold Hid; simpa using hs.1
  have HLn' : Hid (zs'.length = n' * 1) := by unfold Hid; simpa using hs'.1
  by_cases hbig : (n : Int) ≤ 1048576
  case neg =>
    go_enter Try.func5, Try.ntmps5
    go_wp2_with fail
    refine (szClock_gt A n c zs inc del pl si ru fa _ (hs.later (by (repeat' (first | (with_reducible exact Below.refl _ _) | (with_reducible assumption) | (with_reducible refine Below.alloc ?_ ?_ _) | (with_reducible refine Below.drew ?_) | (with_reducible refine belowDrewN ?_ _) | (with_reducible refine Below.setCell ?_ ?_ _) | (with_reducible refine Below.via (by with_reducible assumption) ?_ ?_) | (with_reducible exact Below.size (by with_reducible assumption)) | go_size | (with_reducible refine Nat.le_trans ?_ (Below.size (by with_reducible assumption))) | (with_reducible refine Nat.le_trans ?_ (sizeAlloc _ _)) | (with_reducible refine Nat.le_trans ?_ (sizeSet _ _ _)) | (with_reducible refine Nat.le_trans ?_ (sizeDrew _)))))) 1048576 (by omega) (by omega) hn).mono ?_
    rintro e w1 ⟨rfl, hb1⟩
    go_wp2_with fail
    go_ret
    exact ⟨rfl, by (repeat' (first | (with_reducible exact Below.refl _ _) | (with_reducible assumption) | (with_reducible refine Below.alloc ?_ ?_ _) | (with_reducible refine Below.drew ?_) | (with_reducible refine belowDrewN ?_ _) | (with_reducible refine Below.setCell ?_ ?_ _) | (with_reducible refine Below.via (by with_reducible assumption) ?_ ?_) | (with_reducible exact Below.size (by with_reducible assumption)) | go_size | (with_reducible refine Nat.le_trans ?_ (Below.size (by with_reducible assumption))) | (with_reducible refine Nat.le_trans ?_ (sizeAlloc _ _)) | (with_reducible refine Nat.le_trans ?_ (sizeSet _ _ _)) | (with_reducible refine Nat.le_trans ?_ (sizeDrew _))))⟩
  case pos =>
    have hn2 : n ≤ 1048576 := by omega
    by_cases hbig2 : (n' : Int) ≤ 1048576 - (n : Int)
    case neg =>
      go_enter Try.func5, Try.ntmps5
      go_wp2_with fail
      refine (szClock_le A n c zs inc del pl si ru fa _ (hs.later (by (repeat' (first | (with_reducible exact Below.refl _ _) | (with_reducible assumption) | (with_reducible refine Below.alloc ?_ ?_ _) | (with_reducible refine Below.drew ?_) | (with_reducible refine belowDrewN ?_ _) | (with_reducible refine Below.setCell ?_ ?_ _) | (with_reducible refine Below.via (by with_reducible assumption) ?_ ?_) | (with_reducible exact Below.size (by with_reducible assumption)) | go_size | (with_reducible refine Nat.le_trans ?_ (Below.size (by with_reducible assumption))) | (with_reducible refine Nat.le_trans ?_ (sizeAlloc _ _)) | (with_reducible refine Nat.le_trans ?_ (sizeSet _ _ _)) | (with_reducible refine Nat.le_trans ?_ (sizeDrew _)))))) 1048576 (by omega) (by omega)).mono ?_
      rintro e w1 ⟨rfl, hb1⟩
      have KB := (Blk.new (w.alloc (.cells #[.slice A n c, .int .i64 inc, .int .i64 del, .int .i64 pl, .int .i64 si, .bool ru, .bool fa] 30)) 30 #[.slice A' n' c', .int .i64 inc', .int .i64 del', .int .i64 pl', .int .i64 si', .bool ru', .bool fa']).later hb1
      have hKB := KB.cell
      simp only [World.size_alloc] at hKB
      have hz1 := hb1.size
      simp only [World.size_alloc] at hz1
      have B1 : Below w.heap.size w w1 := by (repeat' (first | (with_reducible exact Below.refl _ _) | (with_reducible assumption) | (with_reducible refine Below.alloc ?_ ?_ _) | (with_reducible refine Below.drew ?_) | (with_reducible refine belowDrewN ?_ _) | (with_reducible refine Below.setCell ?_ ?_ _) | (with_reducible refine Below.via (by with_reducible assumption) ?_ ?_) | (with_reducible exact Below.size (by with_reducible assumption)) | go_size | (with_reducible refine Nat.le_trans ?_ (Below.size (by with_reducible assumption))) | (with_reducible refine Nat.le_trans ?_ (sizeAlloc _ _)) | (with_reducible refine Nat.le_trans ?_ (sizeSet _ _ _)) | (with_reducible refine Nat.le_trans ?_ (sizeDrew _))))
      clear KB
      go_wp2_with fail
      refine (szClock_gt A' n' c' zs' inc' del' pl' si' ru' fa' _ (hs'.later B1) (1048576 - (n : Int)) (by omega) (by omega) hn').mono ?_
      rintro e w2 ⟨rfl, hb2⟩
      go_wp2_with fail
      go_ret
      exact ⟨rfl, by (repeat' (first | (with_reducible exact Below.refl _ _) | (with_reducible assumption) | (with_reducible refine Below.alloc ?_ ?_ _) | (with_reducible refine Below.drew ?_) | (with_reducible refine belowDrewN ?_ _) | (with_reducible refine Below.setCell ?_ ?_ _) | (with_reducible refine Below.via (by with_reducible assumption) ?_ ?_) | (with_reducible exact Below.size (by with_reducible assumption)) | go_size | (with_reducible refine Nat.le_trans ?_ (Below.size (by with_reducible assumption))) | (with_reducible refine Nat.le_trans ?_ (sizeAlloc _ _)) | (with_reducible refine Nat.le_trans ?_ (sizeSet _ _ _)) | (with_reducible refine Nat.le_trans ?_ (sizeDrew _))))⟩
    case pos =>
      have hn2' : n' ≤ 1048576 := by omega
      have hq : (sameC zs zs' inc inc' del del' pl pl' si si' ru ru' fa fa' != sameC zs zs' inc inc' del del' pl pl' si si' ru ru' fa fa') = false := by simp
      obtain ⟨r, hr⟩ : ∃ r, sameC zs zs' inc inc' del del' pl pl' si si' ru ru' fa fa' = r := ⟨_, rfl⟩
      have HR := Lib.hid hr
      rw [hr] at hq
      clear hr
      go_enter Try.func5, Try.ntmps5
      go_wp2_with fail
      refine (szClock_le A n c zs inc del pl si ru fa _ (hs.later (by (repeat' (first | (with_reducible exact Below.refl _ _) | (with_reducible assumption) | (with_reducible refine Below.alloc ?_ ?_ _) | (with_reducible refine Below.drew ?_) | (with_reducible refine belowDrewN ?_ _) | (with_reducible refine Below.setCell ?_ ?_ _) | (with_reducible refine Below.via (by with_reducible assumption) ?_ ?_) | (with_reducible exact Below.size (by with_reducible assumption)) | go_size | (with_reducible refine Nat.le_trans ?_ (Below.size (by with_reducible assumption))) | (with_reducible refine Nat.le_trans ?_ (sizeAlloc _ _)) | (with_reducible refine Nat.le_trans ?_ (sizeSet _ _ _)) | (with_reducible refine Nat.le_trans ?_ (sizeDrew _)))))) 1048576 (by omega) (by omega)).mono ?_
      rintro e w1 ⟨rfl, hb1⟩
      have KA1 := ((Blk.new w 30 #[.slice A n c, .int .i64 inc, .int .i64 del, .int .i64 pl, .int .i64 si, .bool ru, .bool fa]).later (Below.alloc (Below.refl _ _) (Nat.le_refl _) (.cells #[.slice A' n' c', .int .i64 inc', .int .i64 del', .int .i64 pl', .int .i64 si', .bool ru', .bool fa'] 30))).later hb1
      have KB1 := (Blk.new (w.alloc (.cells #[.slice A n c, .int .i64 inc, .int .i64 del, .int .i64 pl, .int .i64 si, .bool ru, .bool fa] 30)) 30 #[.slice A' n' c', .int .i64 inc', .int .i64 del', .int .i64 pl', .int .i64 si', .bool ru', .bool fa']).later hb1
      simp only [World.size_alloc] at KB1
      have B1 : Below w.heap.size w w1 := by (repeat' (first | (with_reducible exact Below.refl _ _) | (with_reducible assumption) | (with_reducible refine Below.alloc ?_ ?_ _) | (with_reducible refine Below.drew ?_) | (with_reducible refine belowDrewN ?_ _) | (with_reducible refine Below.setCell ?_ ?_ _) | (with_reducible refine Below.via (by with_reducible assumption) ?_ ?_) | (with_reducible exact Below.size (by with_reducible assumption)) | go_size | (with_reducible refine Nat.le_trans ?_ (Below.size (by with_reducible assumption))) | (with_reducible refine Nat.le_trans ?_ (sizeAlloc _ _)) | (with_reducible refine Nat.le_trans ?_ (sizeSet _ _ _)) | (with_reducible refine Nat.le_trans ?_ (sizeDrew _))))
      have hA1 := KA1.cell
      have hB1 := KB1.cell
      have lA1 := KA1.lt
      have lB1 := KB1.lt
      have HA1 := Lib.hid KA1
      have HB1 := Lib.hid KB1
      clear KA1 KB1
      go_wp2_with fail
      refine (szClock_le A' n' c' zs' inc' del' pl' si' ru' fa' _ (hs'.later B1) (1048576 - (n : Int)) (by omega) (by omega)).mono ?_
      rintro e w2 ⟨rfl, hb2⟩
      have HA2 := Lib.hid (HA1.out.later hb2)
      have HB2 := Lib.hid (HB1.out.later hb2)
      have B2 : Below w.heap.size w w2 := by (repeat' (first | (with_reducible exact Below.refl _ _) | (with_reducible assumption) | (with_reducible refine Below.alloc ?_ ?_ _) | (with_reducible refine Below.drew ?_) | (with_reducible refine belowDrewN ?_ _) | (with_reducible refine Below.setCell ?_ ?_ _) | (with_reducible refine Below.via (by with_reducible assumption) ?_ ?_) | (with_reducible exact Below.size (by with_reducible assumption)) | go_size | (with_reducible refine Nat.le_trans ?_ (Below.size (by with_reducible assumption))) | (with_reducible refine Nat.le_trans ?_ (sizeAlloc _ _)) | (with_reducible refine Nat.le_trans ?_ (sizeSet _ _ _)) | (with_reducible refine Nat.le_trans ?_ (sizeDrew _))))
      clear hA1 hB1 lA1 lB1 HA1 HB1
      have hA2 := HA2.out.cell
      have hB2 := HB2.out.cell
      have lA2 := HA2.out.lt
      have lB2 := HB2.out.lt
      have sA2 := Lib.hid (hs.later B2)
      have sB2 := Lib.hid (hs'.later B2)
      have sA2d : Hid (Sl w2.drew w2.drew.heap.size 1 A n (zs.map (Value.int .i64))) := (hs.later B2).drew
      go_wp2_with fail
      go_upto_region 8 with fail
      go_cut [6] (fun s6 wx => s6 = .bool r ∧ Blk wx w.heap.size 30 #[.slice A n c, .int .i64 inc, .int .i64 del, .int .i64 pl, .int .i64 si, .bool ru, .bool fa] ∧ Blk wx (w.heap.size + 1) 30 #[.slice A' n' c', .int .i64 inc', .int .i64 del', .int .i64 pl', .int .i64 si', .bool ru', .bool fa'] ∧ Below w.heap.size w wx)
      case first =>
       go_region_with (first
        | (go_at_call 15; ((with_reducible refine (toClock_any A n c zs inc del pl si ru fa _ sA2d.out hn2).mono ?_)); rintro e w3 ⟨g3, rfl, hg3, k3, hb3⟩; have HA3 := Lib.hid (HA2.out.drew_ hb3); have HB3 := Lib.hid (HB2.out.drew_ hb3); have hA3 := HA3.out.cell; have hB3 := HB3.out.cell; have sA3 := Lib.hid (sA2.out.undrew_ hb3); have sB3 := Lib.hid (sB2.out.undrew_ hb3); have lA3 := HA3.out.lt; have lB3 := HB3.out.lt; have HK3 := Lib.hid k3; have B3 := Below.via (Below.undrew hb3) B2 B2.size; clear k3)
        | (go_at_call 15; ((with_reducible refine (toClock_any A' n' c' zs' inc' del' pl' si' ru' fa' _ sB3.out hn2').mono ?_)); rintro e w4 ⟨g4, rfl, hg4, k4, hb4⟩; have HA4 := Lib.hid (HA3.out.later hb4); have HB4 := Lib.hid (HB3.out.later hb4); have hA4 := HA4.out.cell; have hB4 := HB4.out.cell; have sA4 := Lib.hid (sA3.out.later hb4); have sB4 := Lib.hid (sB3.out.later hb4); have lA4 := HA4.out.lt; have lB4 := HB4.out.lt; have HK4 := Lib.hid k4; have HK34 := Lib.hid (HK3.out.later hb4); have B4 := Below.via hb4 B3 B3.size; clear k4)
        | (go_at_call 17; refine (sSameClock_any _ _ _ _ _ _ zs zs' inc  del  pl  si inc' del' pl' si' ru fa ru' fa' _ (by exact Blk.sl (rest := []) (by simpa using HK34.out) HLn.out) (by exact Blk.sl (rest := []) (by simpa using HK4.out) HLn'.out) (by omega) (by omega)).mono ?_; rw [HR.out]; rintro e w5 ⟨rfl, hb5⟩; have HA5 := Lib.hid (HA4.out.later hb5); have HB5 := Lib.hid (HB4.out.later hb5); have hA5 := HA5.out.cell; have hB5 := HB5.out.cell; have sA5 := Lib.hid (sA4.out.later hb5); have sB5 := Lib.hid (sB4.out.later hb5); have lA5 := HA5.out.lt; have lB5 := HB5.out.lt; have B5 := Below.via hb5 B4 B4.size))
       all_goals
        go_wp2_with fail
        go_meet
        exact ⟨rfl, HA5.out, HB5.out, B5⟩
      case rest =>
        obtain ⟨rfl, KA, KB, B5⟩ := hcut
        rename World => w5
        have HA5 := Lib.hid KA
        have HB5 := Lib.hid KB
        have sA5 := Lib.hid (hs.later B5)
        have sB5 := Lib.hid (hs'.later B5)
        have hA5 := KA.cell
        have hB5 := KB.cell
        have lA5 := KA.lt
        have lB5 := KB.lt
        clear KA KB hA2 hB2 lA2 lB2 HA2 HB2 sA2 sB2 sA2d
        go_wp2_with fail
        refine (toClock_any A n c zs inc del pl si ru fa _ sA5.out hn2).mono ?_
        rintro e w6 ⟨g6, rfl, hg6, k6, hb6⟩
        have HA6 := Lib.hid (HA5.out.later hb6)
        have HB6 := Lib.hid (HB5.out.later hb6)
        have sA6 := Lib.hid (sA5.out.later hb6)
        have sB6 := Lib.hid (sB5.out.later hb6)
        have HK6 := Lib.hid k6
        have B6 := Below.via hb6 B5 B5.size
        clear hA5 hB5 lA5 lB5 HA5 HB5 sA5 sB5 k6
        have hA6 := HA6.out.cell
        have hB6 := HB6.out.cell
        have lA6 := HA6.out.lt
        have lB6 := HB6.out.lt
        go_wp2_with fail
        refine (toClock_any A' n' c' zs' inc' del' pl' si' ru' fa' _ (sB6.out.boxed _) hn2').mono ?_
        rintro e w7 ⟨g7, rfl, hg7, k7, hb7⟩
        have HA7 := Lib.hid (HA6.out.far _ hb7)
        have HB7 := Lib.hid (HB6.out.far _ hb7)
        have HX7 := Lib.hid ((Blk.new w6 _ _).later hb7)
        have sA7 := Lib.hid (sA6.out.far _ hb7)
        have sB7 := Lib.hid (sB6.out.far _ hb7)
        have HK7 := Lib.hid (HK6.out.far _ hb7)
        have HL7 := Lib.hid k7
        have B7 : Below w.heap.size w w7 := Below.via hb7 (Below.alloc B6 B6.size _) (Nat.le_trans B6.size (sizeAlloc _ _))
        clear hA6 hB6 lA6 lB6 HA6 HB6 sA6 sB6 HK6 k7
        have hA7 := HA7.out.cell
        have hB7 := HB7.out.cell
        have hX7 := HX7.out.cell
        have lA7 := HA7.out.lt
        have lB7 := HB7.out.lt
        have lX7 := HX7.out.lt
        go_wp2_with fail
        refine (SameClock_any _ _ _ _ _ _ zs zs' inc  del  pl  si inc' del' pl' si' ru fa ru' fa' _ (Sl.boxed (Blk.sl (rest := []) (by simpa using HK7.out) HLn.out) _) (Sl.boxed (Blk.sl (rest := []) (by simpa using HL7.out) HLn'.out) _) (by omega) (by omega)).mono ?_
        rw [HR.out]
        rintro e w8 ⟨rfl, hb8⟩
        have HA8 := Lib.hid (HA7.out.far _ hb8)
        have HB8 := Lib.hid (HB7.out.far _ hb8)
        have HX8 := Lib.hid (HX7.out.far _ hb8)
        have HY8 := Lib.hid ((Blk.new w7 _ _).later hb8)
        have sA8 : Hid (Sl w8.drew w8.drew.heap.size 1 A n (zs.map (Value.int .i64))) := (sA7.out.far _ hb8).drew
        have sB8 := Lib.hid (sB7.out.far _ hb8)
        have HK8 := Lib.hid (HK7.out.far _ hb8)
        have HL8 := Lib.hid (HL7.out.far _ hb8)
        have B8 : Below w.heap.size w w8 := Below.via hb8 (Below.alloc B7 B7.size _) (Nat.le_trans B7.size (sizeAlloc _ _))
        clear hA7 hB7 lA7 lB7 HA7 HB7 sA7 sB7 HK7 HL7 hX7 lX7 HX7
        have hA8 := HA8.out.cell
        have hB8 := HB8.out.cell
        have hX8 := HX8.out.cell
        have hY8 := HY8.out.cell
        go_upto_region 14 with fail
        go_cut [39] (fun s39 wx => s39 = .bool false ∧ Blk wx (w.heap.size + 1) 30 #[.slice A' n' c', .int .i64 inc', .int .i64 del', .int .i64 pl', .int .i64 si', .bool ru', .bool fa'] ∧ Blk wx w7.heap.size 24 #[.slice (some ⟨g7, 0, none⟩) n' n', .int .i64 inc', .int .i64 del', .int .i64 pl', .int .i64 si', .bool ru', .bool fa'] ∧ Blk wx g7 2 (zs'.map (Value.int .i64)).toArray ∧ Below w.heap.size w wx)
        case first =>
         go_region_with (first
          | (go_at_call 15; refine (toClock_any A n c zs inc del pl si ru fa _ sA8.out hn2).mono ?_; rintro e w9 ⟨g9, rfl, hg9, k9, hb9⟩; have HA9 := Lib.hid (HA8.out.drew_ hb9); have HB9 := Lib.hid (HB8.out.drew_ hb9); have HX9 := Lib.hid (HX8.out.drew_ hb9); have HY9 := Lib.hid (HY8.out.drew_ hb9); have hA9 := HA9.out.cell; have hB9 := HB9.out.cell; have hX9 := HX9.out.cell; have hY9 := HY9.out.cell; have sB9 := Lib.hid (sB8.out.undrew_ hb9); have HK9 := Lib.hid (HK8.out.drew_ hb9); have HL9 := Lib.hid (HL8.out.drew_ hb9); have HM9 := Lib.hid k9; have B9 := Below.via (Below.undrew hb9) B8 B8.size; clear k9)
          | (go_at_call 10; refine (eqClock_same _ n n zs inc del pl si ru fa _ (Blk.sl (rest := []) (by simpa using HK9.out) HLn.out) _ n (Blk.sl (rest := []) (by simpa using HM9.out) HLn.out) hn).mono ?_; rintro e w10 ⟨rfl, hb10⟩; have HA10 := Lib.hid (HA9.out.later hb10); have HB10 := Lib.hid (HB9.out.later hb10); have HX10 := Lib.hid (HX9.out.later hb10); have HY10 := Lib.hid (HY9.out.later hb10); have hA10 := HA10.out.cell; have hB10 := HB10.out.cell; have hX10 := HX10.out.cell; have hY10 := HY10.out.cell; have sB10 : Hid (Sl w10.drew w10.drew.heap.size 1 A' n' (zs'.map (Value.int .i64))) := (sB9.out.later hb10).drew; have HL10 := Lib.hid (HL9.out.later hb10); have B10 := Below.via hb10 B9 B9.size))
         all_goals
          go_wp2_with fail
          go_meet
          exact ⟨rfl, HB10.out, HY10.out, HL10.out, B10⟩
        case rest =>
          obtain ⟨rfl, KB, KY, KL, B10⟩ := hcut
          rename World => w10
          have HB10 := Lib.hid KB
          have HY10 := Lib.hid KY
          have HL10 := Lib.hid KL
          have hB10 := KB.cell
          have hY10 := KY.cell
          have sB10 : Hid (Sl w10.drew w10.drew.heap.size 1 A' n' (zs'.map (Value.int .i64))) := (hs'.later B10).drew
          clear KB KY KL hA8 hB8 hX8 hY8 HA8 HB8 HX8 HY8 sA8 sB8 HK8 HL8
          go_wp2_with fail
          go_region_with (first
            | (go_at_call 15; refine (toClock_any A' n' c' zs' inc' del' pl' si' ru' fa' _ sB10.out hn2').mono ?_; rintro e w11 ⟨g11, rfl, hg11, k11, hb11⟩; have HY11 := Lib.hid (HY10.out.drew_ hb11); have hY11 := HY11.out.cell; have HL11 := Lib.hid (HL10.out.drew_ hb11); have HM11 := Lib.hid k11; have B11 := Below.via (Below.undrew hb11) B10 B10.size; clear k11)
            | (go_at_call 10; refine (eqClock_same _ n' n' zs' inc' del' pl' si' ru' fa' _ (Blk.sl (rest := []) (by simpa using HL11.out) HLn'.out) _ n' (Blk.sl (rest := []) (by simpa using HM11.out) HLn'.out) hn').mono ?_; rintro e w12 ⟨rfl, hb12⟩; have B12 := Below.via hb12 B11 B11.size))
          all_goals
            go_wp2_with fail
            go_ret
            exact ⟨rfl, B12⟩
end Go.Proofs.Ytbnccmdbplmmkaa
