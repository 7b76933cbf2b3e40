/- How a list of lists of bytes that came in as an argument is opened. Conditions: the value reads as such. -/
import Derived.Test.YtdljlcbjpfgmcaaBufferAllW
import Derived.Test.YtdljlcbjpfgmcaaFrame
import Derived.Deep.Matrix
namespace Go.Proofs.Ytdljlcbjpfgmcaa
open Go.RowKit Go.Deep Go.WideShapes Go.ChangeShapes

set_option maxRecDepth 100000 in
theorem open_rows {H : Type} {enc : TypeId × Value → H} {W : World} {base b0 : Nat} {hd : Bool} {v : Value} {d : DataW H} {p : List MemPlace}
    (hok : Value.okWide Try.prog W .any b0 70 v) (h : DataW.Trod enc Try.prog W base (fun _ => true) hd 70 v d p) : ∃ z : List (List Int), Rows2 W v z := by
  obtain ⟨a, len, cap, rfl⟩ := okWide_slice Try.underlying70 hok
  obtain ⟨fuel, hf⟩ := h
  rcases open_int_rows Try.underlying70 Try.underlying28 Try.underlying5 (by kernel_rfl) (by kernel_rfl) hf with ⟨hcs, -⟩ | ⟨x, l, c, A, L, C, Z, hcs, -, hl, hm, -, hr⟩
  · simp [Value.cells] at hcs
    obtain ⟨rfl, rfl, rfl⟩ := hcs
    exact ⟨[], none, 0, 0, 0, rfl, Nat.le_refl _, Nat.zero_le _, fun _ => rfl, fun h => by simp at h, fun i h => by simp at h⟩
  · simp [Value.cells] at hcs
    obtain ⟨rfl, rfl, rfl⟩ := hcs
    have hlen : ((List.range len).map fun r => (Z r).take (L r)).length = len := by simp
    have each : ∀ i, i < len → Ints .u8 W (.slice (A i) (L i) (C i)) ((Z i).take (L i)) := fun i hi => by
      obtain ⟨-, h1, h2, h3, h4, h5, h6⟩ := hr i (by omega)
      cases hA : A i with
      | none =>
        have h0 := h5 hA
        have hL : L i = 0 := by omega
        have hZ : (Z i).take (L i) = [] := by rw [hL]; simp
        rw [hZ, hL, h0]
        exact Ints.nil _ _
      | some a' =>
        exact ints_of_cells h1 h2 h3 (fun j hj => ((h6 a' hA).2 j (by omega))) h4
    refine ⟨(List.range len).map fun r => (Z r).take (L r), ?_⟩
    obtain ⟨b, off, spot⟩ := x
    by_cases h0 : 0 < len
    · have hs : spot = none := by
        have := World.cell?_spot (hr 0 (by omega)).1
        simpa [Addr.add] using this
      subst hs
      refine ⟨some ⟨b, off, none⟩, cap, b, off, by rw [hlen], by rw [hlen]; exact hl, hm, by simp, fun _ => rfl, fun i hi => ?_⟩
      rw [hlen] at hi
      have h1 := (hr i (by omega)).1
      rw [add_at] at h1
      refine ⟨_, h1, ?_⟩
      rw [show ((List.range len).map fun r => (Z r).take (L r)).getD i [] = (Z i).take (L i) by simp [List.getD, hi]]
      exact each i hi
    · have h00 : len = 0 := by omega
      subst h00
      exact ⟨_, cap, 0, 0, rfl, by simp, hm, by simp, fun h => by simp at h, fun i h => by simp at h⟩
end Go.Proofs.Ytdljlcbjpfgmcaa
