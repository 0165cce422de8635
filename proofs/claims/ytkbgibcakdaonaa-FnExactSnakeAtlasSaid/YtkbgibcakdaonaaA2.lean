/- IsAtlas. -/
import Derived.Test.YtkbgibcakdaonaaA2i
import Derived.Test.YtkbgibcakdaonaaA2s
namespace Go.Proofs.Ytkbgibcakdaonaa
open Go.RowKit

end Go.Proofs.Ytkbgibcakdaonaa
