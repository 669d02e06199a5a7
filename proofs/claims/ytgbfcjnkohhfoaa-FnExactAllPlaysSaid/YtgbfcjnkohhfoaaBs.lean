/-
  The world in which the law begins: what is known of it, and that it stays as it was.
-/
import Derived.Test.YtgbfcjnkohhfoaaIn
namespace Go.Proofs.Ytgbfcjnkohhfoaa
open Go.RowKit

/-- what is known of the world in which the law begins -/
def LaidW (_ : World) : Prop := True
class Base where
  W : World
  ok : LaidW W
/-- of what the law found nothing has turned -/
structure OldOk [B : Base] (w : World) : Prop where
  size : B.W.heap.size ≤ w.heap.size
  block : ∀ b, b < B.W.heap.size → w.heap[b]? = B.W.heap[b]?
end Go.Proofs.Ytgbfcjnkohhfoaa
