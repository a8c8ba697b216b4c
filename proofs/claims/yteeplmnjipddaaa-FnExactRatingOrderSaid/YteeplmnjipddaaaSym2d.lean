/- Go's stable sort at this seat: merges. Conditions: elements of one cell, at most 1000000. -/
import Derived.Test.YteeplmnjipddaaaSym2a
import Derived.Test.YteeplmnjipddaaaSym2b
import Derived.Test.YteeplmnjipddaaaSym2c
namespace Go.Proofs.Yteeplmnjipddaaa
set_option linter.unusedSimpArgs false
set_option linter.unusedVariables false
open Go.Shelf Go.RowKit Go.Lib Go.Sort

theorem symMerge_any {α : Type} [Inhabited α] {gl : Nat} {lb : Array Value} {sf : Nat} {sb : Array Value} {enc : α → Value} {lt lt2 : α → α → Bool} {ap : α → α → Prop} {blk off n : Nat} {w0 : World} (S : Srt Try.prog gl lb sf sb enc lt blk off n w0) (hO : SWO lt2) (hap : ∀ x y, ap x y → lt y x = lt2 y x) :
    ∀ (K a m b : Nat) (d : Array α) (W : World), b - a ≤ K → a < m → m < b → b ≤ n → d.size = n → SW enc w0 blk off d W → Pre lt2 ap a m b d →
      Calls Try.prog 83 #[.agg #[.func (.func gl) #[] lb, .func (.func sf) #[] sb], .int .i64 a, .int .i64 m, .int .i64 b] W (SymQ enc lt2 blk off n a b w0 d W)
  | 0, a, m, b, d, W, hK, ham, hmb, _, _, _, _ => by omega
  | K + 1, a, m, b, d, W, hK, ham, hmb, hbn, hd, hSW, hP => by
    by_cases hone : m - a = 1
    · exact symMerge_a S hO hap a m b d W ham hmb hbn hd hSW hP hone
    · by_cases htwo : b - m = 1
      · exact symMerge_b S hO hap a m b d W ham hmb hbn hd hSW hP hone htwo
      · exact symMerge_c S hO hap a m b d W ham hmb hbn hd hSW hP hK hone htwo (symMerge_any S hO hap K)
end Go.Proofs.Yteeplmnjipddaaa
