/- ReadMatch: the law. Conditions: the table of powers as it is laid. -/
import Derived.Test.YtggnajoocfmgpaaDoorRdmI
import Derived.Test.YtggnajoocfmgpaaDoorRdmS
namespace Go.Proofs.YtggnajoocfmgpaaDoor
set_option linter.unusedSimpArgs false
set_option linter.unusedVariables false
open Go.RowKit Go.WideShapes Go.ChangeShapes

set_option maxHeartbeats 2000000 in
theorem fnExactReadMatch_walk (s : ByteArray) (w : World) (hsz : s.size ≤ 9223372036854775807) (ht : TabW w) : Calls Tryd.prog 9 #[.string s] w fun e w' => e = .returned (.bool true) ∧ Below w.heap.size w w' := by
  have HT := Lib.hid ht
  by_cases hs : s.size ≤ 1048576
  case neg =>
    go_enter Tryd.func9, Tryd.ntmps9
    go_wp2_with fail
    go_ret
    exact ⟨rfl, by (repeat' (first | (with_reducible exact Below.refl _ _) | (with_reducible assumption) | (with_reducible refine Below.alloc ?_ ?_ _) | (with_reducible refine Below.drew ?_) | (with_reducible refine belowDrewN ?_ _) | (with_reducible refine Below.setCell ?_ ?_ _) | (with_reducible refine Below.via (by with_reducible assumption) ?_ ?_) | (with_reducible refine Below.viaD (by with_reducible assumption) ?_ ?_) | (with_reducible exact Below.size (by with_reducible assumption)) | go_size | (with_reducible refine Nat.le_trans ?_ (Below.size (by with_reducible assumption))) | (with_reducible refine Nat.le_trans ?_ (sizeAlloc _ _)) | (with_reducible refine Nat.le_trans ?_ (sizeSet _ _ _)) | (with_reducible refine Nat.le_trans ?_ (sizeDrew _))))⟩
  case pos =>
    obtain ⟨n1, n2, n3, n4, ok, h⟩ : ∃ n1 n2 n3 n4 ok, rdM s.data.toList = ((n1, n2, n3, n4), ok) := ⟨_, _, _, _, _, rfl⟩
    have HR := Lib.hid h
    clear h
    have hok : (ok != ok) = false := by simp
    go_enter Tryd.func9, Tryd.ntmps9
    go_wp2_with fail
    refine (sReadMatch_any s n1 n2 n3 n4 ok HR.out hs _).mono ?_
    rintro e w1 ⟨rfl, hb1⟩
    have B1 := Lib.hid (Below.alloc hb1 hb1.size (.cells #[.int .i64 n1, .int .i64 n2, .int .i64 n3, .bool n4] 39))
    have K1 := Lib.hid (Blk.new w1 39 #[.int .i64 n1, .int .i64 n2, .int .i64 n3, .bool n4])
    clear hb1
    go_wp2_with fail
    refine (ReadMatch_any s n1 n2 n3 n4 ok HR.out hs _ (HT.out.later B1.out)).mono ?_
    rintro e w2 ⟨rfl, hb2⟩
    have B2 := Lib.hid (Below.via hb2 B1.out B1.out.size)
    have K2 := Lib.hid (K1.out.later hb2)
    have c0 := K2.out.cell 0
    have c1 := K2.out.cell 1
    have c2 := K2.out.cell 2
    have c3 := K2.out.cell 3
    have hl := K2.out.lt
    clear hb2
    go_wp2_with fail
    refine (eqMatch_same n1 n2 n3 n4 _).mono ?_
    rintro e w3 ⟨rfl, hb3⟩
    have B3 := Lib.hid (Below.via hb3 (Below.alloc B2.out B2.out.size (.cells #[.int .i64 n1, .int .i64 n2, .int .i64 n3, .bool n4] 39)) (by have := B2.out.size; simp; omega))
    clear hb3
    go_wp2_with fail
    go_ret
    exact ⟨rfl, B3.out⟩
end Go.Proofs.YtggnajoocfmgpaaDoor
