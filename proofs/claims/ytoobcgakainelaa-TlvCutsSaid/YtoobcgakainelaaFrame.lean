/- How an argument that is read as data comes to a walk: a slice of integers as the list that it holds. -/
import Derived.Test.YtoobcgakainelaaRows
import Derived.Test.YtoobcgakainelaaBase
import Derived.OpenShut
import Derived.ShutString
import Derived.ChangeOld
namespace Go.Proofs.Ytoobcgakainelaa
open Go.ChangeShapes Go.WideShapes Go.ChangeAt Go.RowKit

theorem frame_own : ownKnob Try.prog.godebug = none := by kernel_rfl
theorem frame_laidOut : laidOutB Try.prog = true := by kernel_rfl

theorem ints_of_cells {k : IntKind} {w : World} {x : Addr} {len cap : Nat} {zs : List Int} (hl : len ≤ cap) (hm : cap ≤ maxLen) (hz : zs.length = cap) (hcell : ∀ i, i < zs.length → w.cell? (x.add i) = some (.int k (zs.getD i 0))) (hw : ∀ n ∈ zs, (Lit.int k n).wf = true) :
    Ints k w (.slice (some x) len cap) (zs.take len) := by
  have hlen : (zs.take len).length = len := by rw [List.length_take]; omega
  obtain ⟨b, off, spot⟩ := x
  by_cases h0 : 0 < len
  · have h1 := hcell 0 (by omega)
    have hs : spot = none := by
      have := World.cell?_spot h1
      simpa [Addr.add] using this
    subst hs
    refine Ints.mk (b := b) (off := off) hlen hl hm (by simp) (fun _ => rfl) (fun i hi => ?_) (fun z hz => hw z (List.mem_of_mem_take hz))
    have := hcell i (by omega)
    rw [add_at] at this
    rw [this]
    have e : (zs.take len)[i]? = zs[i]? := by rw [List.getElem?_take, if_pos hi]
    simp [List.getD, e]
  · exact Ints.mk (b := 0) (off := 0) hlen hl hm (by simp) (fun h => absurd h h0) (fun i hi => absurd hi (by omega)) (fun z hz => hw z (List.mem_of_mem_take hz))

/-- A slice of integers that came in. -/
theorem arg_ints {H : Type} {enc : TypeId × Value → H} {P : Program} {W : World} {base : Nat} {sp : Nat → Bool} {hd : Bool} {t e : TypeId} {k : IntKind} {a : Option Addr} {len cap : Nat} {d : DataW H} {p : List MemPlace}
    (ht : P.underlying t = some (.slice e)) (he : P.underlying e = some (.int k)) (hc : P.cellsOf e = 1) (h : DataW.Trod enc P W base sp hd t (.slice a len cap) d p) (hs : ∀ b, sp b = true) :
    ∃ zs, Ints k W (.slice a len cap) zs := by
  obtain ⟨fuel, hf⟩ := h
  rcases open_ints ht he hc hf with ⟨hcs, _⟩ | ⟨x, l, c, zs, hcs, _, hl, hm, hz, _, hcell, hwz⟩
  · simp [Value.cells] at hcs
    obtain ⟨rfl, rfl, rfl⟩ := hcs
    exact ⟨[], Ints.nil k W⟩
  · simp [Value.cells] at hcs
    obtain ⟨rfl, rfl, rfl⟩ := hcs
    exact ⟨zs.take len, ints_of_cells hl hm (by simpa [hs] using hz) hcell hwz⟩

end Go.Proofs.Ytoobcgakainelaa
