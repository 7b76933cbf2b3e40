/- The walk of the document's Body of a hello, given that of its Bare. Conditions: not too many elements. -/
import Derived.Test.YtcebcncpbedkmaaGreatZHelB
import Derived.Test.YtcebcncpbedkmaaGreatZRefTD
namespace Go.Proofs.YtcebcncpbedkmaaGreat
open Go Go.RowKit
set_option maxRecDepth 100000
set_option maxHeartbeats 8000000

theorem bodyH_none {ty : Int} {bare : Bool} {els : List Elt} (h : ty ≠ 0 ∨ bare = false ∨ els.any wrongE = true) : bodyH ty bare els = ([], 10001) := by
  unfold bodyH
  rw [if_neg]
  rintro ⟨h1, h2, h3, -⟩
  rcases h with h | h | h
  · exact h h1
  · rw [h2] at h; cases h
  · rw [h3] at h; cases h

end Go.Proofs.YtcebcncpbedkmaaGreat
