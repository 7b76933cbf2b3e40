/- The document's One: its refusals. Conditions: the argument reads as bytes, at most 10^9. The document's One. Conditions: the argument reads as bytes, at most 10^9. -/
import Derived.Test.YtcebcncpbedkmaaGreatZRefTD
namespace Go.Proofs.YtcebcncpbedkmaaGreat
open Go.RowKit
set_option maxRecDepth 100000
set_option maxHeartbeats 4000000

end Go.Proofs.YtcebcncpbedkmaaGreat
namespace Go.Proofs.YtcebcncpbedkmaaGreat
open Go.RowKit
set_option maxRecDepth 100000
set_option maxHeartbeats 4000000

end Go.Proofs.YtcebcncpbedkmaaGreat
