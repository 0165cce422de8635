/- IsAtlas. -/
import Derived.Test.YtdgalehipgdhiaaDoorA2i
import Derived.Test.YtdgalehipgdhiaaDoorA2s
namespace Go.Proofs.YtdgalehipgdhiaaDoor
open Go.RowKit

end Go.Proofs.YtdgalehipgdhiaaDoor
