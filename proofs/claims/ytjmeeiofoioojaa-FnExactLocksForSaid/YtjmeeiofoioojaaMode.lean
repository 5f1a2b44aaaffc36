/-
  The contracts of the mode functions, of the reference and of the program: what each call returns, the world left alone.
-/
import Derived.Test.YtjmeeiofoioojaaProg
import Derived.Test.YtjmeeiofoioojaaRange
namespace Go.Proofs.Ytjmeeiofoioojaa
open Go.RowKit






end Go.Proofs.Ytjmeeiofoioojaa
