/- The small readers: alike, among them. -/
import Derived.Test.YtoickikfojpgaaaRows
import Derived.Test.YtoickikfojpgaaaEv0
namespace Go.Proofs.Ytoickikfojpgaaa
open Go.RowKit

end Go.Proofs.Ytoickikfojpgaaa
