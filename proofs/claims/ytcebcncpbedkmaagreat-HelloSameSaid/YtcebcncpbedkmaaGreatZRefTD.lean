/- The walk of the document's Join. Conditions: the argument reads as things, at most 10^6 of them, none of more than 10^9 bytes. -/
import Derived.Test.YtcebcncpbedkmaaGreatZRefTA
namespace Go.Proofs.YtcebcncpbedkmaaGreat
open Go.RowKit
set_option maxRecDepth 100000
set_option maxHeartbeats 4000000

theorem own_pos {w : World} {base e size n : Nat} {v : Value} {xs : List Value} (h : w.ownsRow base e size v n xs) (h0 : 0 < n) : ∃ g cap, v = .slice (some ⟨g, 0, none⟩) n cap ∧ n ≤ cap ∧ cap ≤ maxLen := by
  obtain ⟨hl, ⟨rfl, rfl⟩ | ⟨g, cap, cur, rfl, -, -, hn, hc, -⟩⟩ := h
  · omega
  · exact ⟨g, cap, rfl, hn, hc⟩

end Go.Proofs.YtcebcncpbedkmaaGreat
