/- NewBook: the law. No conditions. -/
import Derived.Test.YtpcenpedbdenmaaBook1
namespace Go.Proofs.Ytpcenpedbdenmaa
set_option linter.unusedSimpArgs false
set_option linter.unusedVariables false
open Go.RowKit

set_option maxHeartbeats 4000000 in
theorem nb_walk (r : Ru) (w : World) : Calls Try.prog 9 #[.agg #[.int .i64 r.p, .int .i64 r.s, .bool r.st, .bool r.sk, .bool r.re, .bool r.fe, .bool r.ag, .int .i64 r.ca, .int .i64 r.sl]] w fun e w' => e = .returned (.bool true) ∧ Below w.heap.size w w' := by
  obtain ⟨r2, code, hr⟩ : ∃ r2 code, nbR r = (r2, code) := ⟨_, _, rfl⟩
  have HR := Lib.hid hr
  clear hr
  have hcn : (code != code) = false := by simp
  go_enter Try.func9, Try.ntmps9
  go_wp2_with fail
  refine (toRules_any r _).mono ?_
  rintro e w1 ⟨rfl, hb1⟩
  have KA1 := Lib.hid ((Blk.new w 23 #[.int .i64 r.p, .int .i64 r.s, .bool r.st, .bool r.sk, .bool r.re, .bool r.fe, .bool r.ag, .int .i64 r.ca, .int .i64 r.sl]).later hb1)
  have B1 := below_boxed hb1
  clear hb1
  have cA1 := KA1.out.cell
  go_wp2_with fail
  refine (sNewBook_any r r2 code HR.out _).mono ?_
  rintro e w2 ⟨rfl, hb2⟩
  have KA2 := Lib.hid (KA1.out.later hb2)
  have B2 := Below.via hb2 B1 B1.size
  clear cA1 KA1 hb2
  have cA2 := KA2.out.cell
  have lA2 := KA2.out.lt
  go_wp2_with fail
  refine (toRules_any r _).mono ?_
  rintro e w3 ⟨rfl, hb3⟩
  have KA3 := Lib.hid (KA2.out.later (below_boxed hb3))
  have KB3 := Lib.hid ((Blk.new w2 58 #[.int .i64 r2.p, .int .i64 r2.s, .bool r2.st, .bool r2.sk, .bool r2.re, .bool r2.fe, .bool r2.ag, .int .i64 r2.ca, .int .i64 r2.sl, .slice none 0 0]).later hb3)
  have B3 := Below.via (below_boxed hb3) B2 B2.size
  clear cA2 KA2 lA2 hb3
  have cA3 := KA3.out.cell
  have cB3 := KB3.out.cell
  go_wp2_with fail
  refine (NewBook_any r r2 code HR.out _).mono ?_
  rintro e w4 ⟨rfl, hb4⟩
  have KA4 := Lib.hid (KA3.out.later hb4)
  have KB4 := Lib.hid (KB3.out.later hb4)
  have B4 := Below.via hb4 B3 B3.size
  clear cA3 cB3 KA3 KB3 hb4
  have cA4 := KA4.out.cell
  have cB4 := KB4.out.cell
  have lA4 := KA4.out.lt
  have lB4 := KB4.out.lt
  go_wp2_with fail
  refine (eqBook_same r2 _).mono ?_
  rintro e w5 ⟨rfl, hb5⟩
  have KA5 := Lib.hid (KA4.out.later (below_boxed hb5))
  have KB5 := Lib.hid (KB4.out.later (below_boxed hb5))
  have KC5 := Lib.hid ((Blk.new w4 58 #[.int .i64 r2.p, .int .i64 r2.s, .bool r2.st, .bool r2.sk, .bool r2.re, .bool r2.fe, .bool r2.ag, .int .i64 r2.ca, .int .i64 r2.sl, .slice none 0 0]).later hb5)
  have B5 := Below.via (below_boxed hb5) B4 B4.size
  clear cA4 cB4 KA4 KB4 hb5 lA4 lB4
  have cA5 := KA5.out.cell
  have cB5 := KB5.out.cell
  have cC5 := KC5.out.cell
  go_wp2_with fail
  refine (markBook_any r2 1 _).mono ?_
  rintro e w6 ⟨rfl, hb6⟩
  have KA6 := Lib.hid (KA5.out.later hb6)
  have KB6 := Lib.hid (KB5.out.later hb6)
  have KC6 := Lib.hid (KC5.out.later hb6)
  have B6 := Below.via hb6 B5 B5.size
  clear cA5 cB5 cC5 KA5 KB5 KC5 hb6
  have cA6 := KA6.out.cell
  have cB6 := KB6.out.cell
  have cC6 := KC6.out.cell
  go_wp2_with fail
  refine (heldBook_any r2 1 (by omega) _).mono ?_
  rintro e w7 ⟨rfl, hb7⟩
  have KA7 := Lib.hid (KA6.out.later hb7)
  have KB7 := Lib.hid (KB6.out.later hb7)
  have KC7 := Lib.hid (KC6.out.later hb7)
  have B7 := Below.via hb7 B6 B6.size
  clear cA6 cB6 cC6 KA6 KB6 KC6 hb7
  have cA7 := KA7.out.cell
  have cB7 := KB7.out.cell
  have cC7 := KC7.out.cell
  go_wp2_with fail
  refine (toRules_any r _).mono ?_
  rintro e w8 ⟨rfl, hb8⟩
  have KB8 := Lib.hid (KB7.out.later hb8)
  have KC8 := Lib.hid (KC7.out.later hb8)
  have B8 := Below.via hb8 B7 B7.size
  clear cA7 cB7 cC7 KA7 KB7 KC7 hb8
  have cB8 := KB8.out.cell
  have cC8 := KC8.out.cell
  go_wp2_with fail
  refine (NewBook_any r r2 code HR.out _).mono ?_
  rintro e w9 ⟨rfl, hb9⟩
  have KB9 := Lib.hid (KB8.out.later hb9)
  have KC9 := Lib.hid (KC8.out.later hb9)
  have B9 := Below.via hb9 B8 B8.size
  clear cB8 cC8 KB8 KC8 hb9
  have cB9 := KB9.out.cell
  have cC9 := KC9.out.cell
  have lB9 := KB9.out.lt
  have lC9 := KC9.out.lt
  go_wp2_with fail
  refine (eqBook_same r2 _).mono ?_
  rintro e w10 ⟨rfl, hb10⟩
  have KC10 := Lib.hid (KC9.out.later (below_boxed hb10))
  have B10 := Below.via (below_boxed hb10) B9 B9.size
  clear cB9 cC9 KB9 KC9 lB9 lC9 hb10
  have cC10 := KC10.out.cell
  go_wp2_with fail
  refine (heldBook_any r2 1 (by omega) _).mono ?_
  rintro e w11 ⟨rfl, hb11⟩
  have B11 := Below.via hb11 B10 B10.size
  go_wp2_with fail
  go_ret
  exact ⟨rfl, B11⟩
theorem nb_walk9 (p s : Int) (st sk re fe ag : Bool) (ca sl : Int) (w : World) : Calls Try.prog 9 #[.agg #[.int .i64 p, .int .i64 s, .bool st, .bool sk, .bool re, .bool fe, .bool ag, .int .i64 ca, .int .i64 sl]] w fun e w' => e = .returned (.bool true) ∧ Below w.heap.size w w' := nb_walk ⟨p, s, st, sk, re, fe, ag, ca, sl⟩ w
end Go.Proofs.Ytpcenpedbdenmaa
