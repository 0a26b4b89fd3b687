/-
  Records: the chapters' contracts side by side.
-/
import Derived.Test.YtndekohimfjdeaaDoorVecO
import Derived.Test.YtndekohimfjdeaaDoorVecQ
import Derived.Test.YtndekohimfjdeaaDoorRvF
import Derived.Test.YtndekohimfjdeaaDoorPathG
import Derived.Test.YtndekohimfjdeaaDoorPathO
import Derived.Test.YtndekohimfjdeaaDoorBlkC
namespace Go.Proofs.YtndekohimfjdeaaDoor
open Go.RowKit Go.Shelf
end Go.Proofs.YtndekohimfjdeaaDoor
