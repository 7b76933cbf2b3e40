/- The walk of the document's Cut. Conditions: the argument reads as bytes, at most 10^9. -/
import Derived.Test.YtcebcncpbedkmaaGreatZRefTH
namespace Go.Proofs.YtcebcncpbedkmaaGreat
open Go.RowKit
set_option maxRecDepth 100000
set_option maxHeartbeats 4000000

def lenV : Value → Nat | .slice _ n _ => n | _ => 0

end Go.Proofs.YtcebcncpbedkmaaGreat
