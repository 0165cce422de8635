/- IsAtlas. -/
import Derived.Test.YtdgalehipgdhiaaA2i
import Derived.Test.YtdgalehipgdhiaaA2s
namespace Go.Proofs.Ytdgalehipgdhiaa
open Go.RowKit

end Go.Proofs.Ytdgalehipgdhiaa
