/-
  The contract of the reference's IsBoard, for every variant and two lists of at most 2^20 elements.
-/
import Derived.Test.YtmcjabodkjlkgaaBoardS1
import Derived.Test.YtmcjabodkjlkgaaBoardS2
import Derived.Test.YtmcjabodkjlkgaaBoardS3
import Derived.Test.YtmcjabodkjlkgaaBoardS4
import Derived.Test.YtmcjabodkjlkgaaBoardS5
namespace Go.Proofs.Ytmcjabodkjlkgaa
open Go.RowKit

theorem specBoard_any (p c h s : Int) (v1 v2 : Value) (zs ys : List Int) (w : World) (I1 : IntsAt w v1 zs) (I2 : IntsAt w v2 ys) :
    Calls Try.prog 21 #[.agg #[.int .i64 p, .int .i64 c, .int .i64 h, .int .i64 s], .agg #[v1, v2]] w fun e w' => e = .returned (.bool (boardB p c h s zs ys)) ∧ Below w.heap.size w w' := by
  rcases boardB_cases p c h s zs ys with ⟨hv, hr⟩ | ⟨hv, h1, hr⟩ | ⟨hv, h1, h2, hr⟩ | ⟨hv, h1, h2, hr⟩
  · exact specBoard_1 p c h s v1 v2 zs ys w I1 I2 hv hr
  · exact specBoard_2 p c h s v1 v2 zs ys w I1 I2 hv h1 hr
  · exact specBoard_3 p c h s v1 v2 zs ys w I1 I2 hv h1 h2 hr
  · by_cases he : emptyB zs ys = true
    · exact specBoard_4 p c h s v1 v2 zs ys w I1 I2 hv h1 h2 hr he
    · exact specBoard_5 p c h s v1 v2 zs ys w I1 I2 hv h1 h2 hr he
end Go.Proofs.Ytmcjabodkjlkgaa
