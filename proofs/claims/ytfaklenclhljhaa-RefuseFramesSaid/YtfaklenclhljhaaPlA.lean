/- The walks of plain.rows, plain.asked, and the document's (gunwaleref22.row, asked). Conditions: asked: the numbers are as many as it looks at. -/
import Derived.Test.YtfaklenclhljhaaCurB
import Derived.Test.YtfaklenclhljhaaCurE
import Derived.Test.YtfaklenclhljhaaTail
namespace Go.Proofs.Ytfaklenclhljhaa
open Go.RowKit
set_option maxRecDepth 100000
set_option maxHeartbeats 4000000

def rowS (t : Int) : List Int × Bool :=
  if t = 5 ∨ t = 7 ∨ t = 20 ∨ t = 21 ∨ t = 26 then ([], true) else
  if t = 6 then ([8, 4, 1, 1, -2, 4, 4], true) else
  if t = 8 ∨ t = 9 then ([2, 2], true) else
  if t = 16 then ([4, -4, 6, -2, 4, 4, 4, -4], true) else
  if t = 17 then ([1, -3, 4], true) else
  if t = 22 then ([4, -4], true) else
  if t = 24 ∨ t = 25 then ([4, -4, 8], true) else
  if t = 27 ∨ t = 28 then ([4, 4, 4, 4, 4, 4], true) else
  ([], false)

theorem rowS_cases (t : Int) : (t = 5 ∧ rowS t = ([], true)) ∨ (t = 6 ∧ rowS t = ([8, 4, 1, 1, -2, 4, 4], true)) ∨ (t = 7 ∧ rowS t = ([], true)) ∨ (t = 8 ∧ rowS t = ([2, 2], true)) ∨ (t = 9 ∧ rowS t = ([2, 2], true)) ∨ (t = 16 ∧ rowS t = ([4, -4, 6, -2, 4, 4, 4, -4], true)) ∨ (t = 17 ∧ rowS t = ([1, -3, 4], true)) ∨ (t = 20 ∧ rowS t = ([], true)) ∨ (t = 21 ∧ rowS t = ([], true)) ∨ (t = 22 ∧ rowS t = ([4, -4], true)) ∨ (t = 24 ∧ rowS t = ([4, -4, 8], true)) ∨ (t = 25 ∧ rowS t = ([4, -4, 8], true)) ∨ (t = 26 ∧ rowS t = ([], true)) ∨ (t = 27 ∧ rowS t = ([4, 4, 4, 4, 4, 4], true)) ∨ (t = 28 ∧ rowS t = ([4, 4, 4, 4, 4, 4], true)) ∨ ((t ≠ 5 ∧ t ≠ 6 ∧ t ≠ 7 ∧ t ≠ 8 ∧ t ≠ 9 ∧ t ≠ 16 ∧ t ≠ 17 ∧ t ≠ 20 ∧ t ≠ 21 ∧ t ≠ 22 ∧ t ≠ 24 ∧ t ≠ 25 ∧ t ≠ 26 ∧ t ≠ 27 ∧ t ≠ 28) ∧ rowS t = ([], false)) := by
  rcases (show t = 5 ∨ t = 6 ∨ t = 7 ∨ t = 8 ∨ t = 9 ∨ t = 16 ∨ t = 17 ∨ t = 20 ∨ t = 21 ∨ t = 22 ∨ t = 24 ∨ t = 25 ∨ t = 26 ∨ t = 27 ∨ t = 28 ∨ (t ≠ 5 ∧ t ≠ 6 ∧ t ≠ 7 ∧ t ≠ 8 ∧ t ≠ 9 ∧ t ≠ 16 ∧ t ≠ 17 ∧ t ≠ 20 ∧ t ≠ 21 ∧ t ≠ 22 ∧ t ≠ 24 ∧ t ≠ 25 ∧ t ≠ 26 ∧ t ≠ 27 ∧ t ≠ 28) by omega) with rfl | rfl | rfl | rfl | rfl | rfl | rfl | rfl | rfl | rfl | rfl | rfl | rfl | rfl | rfl | h
  · exact .inl ⟨rfl, rfl⟩
  · exact .inr (.inl ⟨rfl, rfl⟩)
  · exact .inr (.inr (.inl ⟨rfl, rfl⟩))
  · exact .inr (.inr (.inr (.inl ⟨rfl, rfl⟩)))
  · exact .inr (.inr (.inr (.inr (.inl ⟨rfl, rfl⟩))))
  · exact .inr (.inr (.inr (.inr (.inr (.inl ⟨rfl, rfl⟩)))))
  · exact .inr (.inr (.inr (.inr (.inr (.inr (.inl ⟨rfl, rfl⟩))))))
  · exact .inr (.inr (.inr (.inr (.inr (.inr (.inr (.inl ⟨rfl, rfl⟩)))))))
  · exact .inr (.inr (.inr (.inr (.inr (.inr (.inr (.inr (.inl ⟨rfl, rfl⟩))))))))
  · exact .inr (.inr (.inr (.inr (.inr (.inr (.inr (.inr (.inr (.inl ⟨rfl, rfl⟩)))))))))
  · exact .inr (.inr (.inr (.inr (.inr (.inr (.inr (.inr (.inr (.inr (.inl ⟨rfl, rfl⟩))))))))))
  · exact .inr (.inr (.inr (.inr (.inr (.inr (.inr (.inr (.inr (.inr (.inr (.inl ⟨rfl, rfl⟩)))))))))))
  · exact .inr (.inr (.inr (.inr (.inr (.inr (.inr (.inr (.inr (.inr (.inr (.inr (.inl ⟨rfl, rfl⟩))))))))))))
  · exact .inr (.inr (.inr (.inr (.inr (.inr (.inr (.inr (.inr (.inr (.inr (.inr (.inr (.inl ⟨rfl, rfl⟩)))))))))))))
  · exact .inr (.inr (.inr (.inr (.inr (.inr (.inr (.inr (.inr (.inr (.inr (.inr (.inr (.inr (.inl ⟨rfl, rfl⟩))))))))))))))
  · refine .inr (.inr (.inr (.inr (.inr (.inr (.inr (.inr (.inr (.inr (.inr (.inr (.inr (.inr (.inr (⟨h, ?_⟩)))))))))))))))
    obtain ⟨h5, h6, h7, h8, h9, h16, h17, h20, h21, h22, h24, h25, h26, h27, h28⟩ := h
    simp [rowS, h5, h6, h7, h8, h9, h16, h17, h20, h21, h22, h24, h25, h26, h27, h28]

theorem plain_rows (t : Int) (w : World) :
    Calls Try.prog 40 #[.int .i64 t] w fun e w' => ∃ v, e = .returned (.tuple #[v, .bool (rowS t).2]) ∧ Ints .i64 w' v (rowS t).1 ∧ Below w.heap.size w w' := by
  rcases rowS_cases t with ⟨rfl, hr⟩ | ⟨rfl, hr⟩ | ⟨rfl, hr⟩ | ⟨rfl, hr⟩ | ⟨rfl, hr⟩ | ⟨rfl, hr⟩ | ⟨rfl, hr⟩ | ⟨rfl, hr⟩ | ⟨rfl, hr⟩ | ⟨rfl, hr⟩ | ⟨rfl, hr⟩ | ⟨rfl, hr⟩ | ⟨rfl, hr⟩ | ⟨rfl, hr⟩ | ⟨rfl, hr⟩ | ⟨⟨h5, h6, h7, h8, h9, h16, h17, h20, h21, h22, h24, h25, h26, h27, h28⟩, hr⟩
  · rw [hr]
    clear hr
    go_enter Try.func40, Try.ntmps40
    go_wp2
    go_ret2
    exact ⟨_, rfl, Ints.nil _ _, Below.refl _ _⟩
  · rw [hr]
    clear hr
    go_enter Try.func40, Try.ntmps40
    go_wp2
    go_ret2
    exact ⟨_, rfl, Ints.lit .i64 w 3 [8, 4, 1, 1, -2, 4, 4] _ rfl (by decide) (by decide), below_alloc2 _⟩
  · rw [hr]
    clear hr
    go_enter Try.func40, Try.ntmps40
    go_wp2
    go_ret2
    exact ⟨_, rfl, Ints.nil _ _, Below.refl _ _⟩
  · rw [hr]
    clear hr
    go_enter Try.func40, Try.ntmps40
    go_wp2
    go_ret2
    exact ⟨_, rfl, Ints.lit .i64 w 3 [2, 2] _ rfl (by decide) (by decide), below_alloc2 _⟩
  · rw [hr]
    clear hr
    go_enter Try.func40, Try.ntmps40
    go_wp2
    go_ret2
    exact ⟨_, rfl, Ints.lit .i64 w 3 [2, 2] _ rfl (by decide) (by decide), below_alloc2 _⟩
  · rw [hr]
    clear hr
    go_enter Try.func40, Try.ntmps40
    go_wp2
    go_ret2
    exact ⟨_, rfl, Ints.lit .i64 w 3 [4, -4, 6, -2, 4, 4, 4, -4] _ rfl (by decide) (by decide), below_alloc2 _⟩
  · rw [hr]
    clear hr
    go_enter Try.func40, Try.ntmps40
    go_wp2
    go_ret2
    exact ⟨_, rfl, Ints.lit .i64 w 3 [1, -3, 4] _ rfl (by decide) (by decide), below_alloc2 _⟩
  · rw [hr]
    clear hr
    go_enter Try.func40, Try.ntmps40
    go_wp2
    go_ret2
    exact ⟨_, rfl, Ints.nil _ _, Below.refl _ _⟩
  · rw [hr]
    clear hr
    go_enter Try.func40, Try.ntmps40
    go_wp2
    go_ret2
    exact ⟨_, rfl, Ints.nil _ _, Below.refl _ _⟩
  · rw [hr]
    clear hr
    go_enter Try.func40, Try.ntmps40
    go_wp2
    go_ret2
    exact ⟨_, rfl, Ints.lit .i64 w 3 [4, -4] _ rfl (by decide) (by decide), below_alloc2 _⟩
  · rw [hr]
    clear hr
    go_enter Try.func40, Try.ntmps40
    go_wp2
    go_ret2
    exact ⟨_, rfl, Ints.lit .i64 w 3 [4, -4, 8] _ rfl (by decide) (by decide), below_alloc2 _⟩
  · rw [hr]
    clear hr
    go_enter Try.func40, Try.ntmps40
    go_wp2
    go_ret2
    exact ⟨_, rfl, Ints.lit .i64 w 3 [4, -4, 8] _ rfl (by decide) (by decide), below_alloc2 _⟩
  · rw [hr]
    clear hr
    go_enter Try.func40, Try.ntmps40
    go_wp2
    go_ret2
    exact ⟨_, rfl, Ints.nil _ _, Below.refl _ _⟩
  · rw [hr]
    clear hr
    go_enter Try.func40, Try.ntmps40
    go_wp2
    go_ret2
    exact ⟨_, rfl, Ints.lit .i64 w 3 [4, 4, 4, 4, 4, 4] _ rfl (by decide) (by decide), below_alloc2 _⟩
  · rw [hr]
    clear hr
    go_enter Try.func40, Try.ntmps40
    go_wp2
    go_ret2
    exact ⟨_, rfl, Ints.lit .i64 w 3 [4, 4, 4, 4, 4, 4] _ rfl (by decide) (by decide), below_alloc2 _⟩
  · rw [hr]
    clear hr
    have b5 : (t == 5) = false := by simpa using h5
    have b6 : (t == 6) = false := by simpa using h6
    have b7 : (t == 7) = false := by simpa using h7
    have b8 : (t == 8) = false := by simpa using h8
    have b9 : (t == 9) = false := by simpa using h9
    have b16 : (t == 16) = false := by simpa using h16
    have b17 : (t == 17) = false := by simpa using h17
    have b20 : (t == 20) = false := by simpa using h20
    have b21 : (t == 21) = false := by simpa using h21
    have b22 : (t == 22) = false := by simpa using h22
    have b24 : (t == 24) = false := by simpa using h24
    have b25 : (t == 25) = false := by simpa using h25
    have b26 : (t == 26) = false := by simpa using h26
    have b27 : (t == 27) = false := by simpa using h27
    have b28 : (t == 28) = false := by simpa using h28
    clear h5 h6 h7 h8 h9 h16 h17 h20 h21 h22 h24 h25 h26 h27 h28
    go_enter Try.func40, Try.ntmps40
    go_wp2
    go_ret2
    exact ⟨_, rfl, Ints.nil _ _, Below.refl _ _⟩

theorem ref_row22 (t : Int) (w : World) :
    Calls Try.prog 44 #[.int .i64 t] w fun e w' => ∃ v, e = .returned (.tuple #[v, .bool (rowS t).2]) ∧ Ints .i64 w' v (rowS t).1 ∧ Below w.heap.size w w' := by
  rcases rowS_cases t with ⟨rfl, hr⟩ | ⟨rfl, hr⟩ | ⟨rfl, hr⟩ | ⟨rfl, hr⟩ | ⟨rfl, hr⟩ | ⟨rfl, hr⟩ | ⟨rfl, hr⟩ | ⟨rfl, hr⟩ | ⟨rfl, hr⟩ | ⟨rfl, hr⟩ | ⟨rfl, hr⟩ | ⟨rfl, hr⟩ | ⟨rfl, hr⟩ | ⟨rfl, hr⟩ | ⟨rfl, hr⟩ | ⟨⟨h5, h6, h7, h8, h9, h16, h17, h20, h21, h22, h24, h25, h26, h27, h28⟩, hr⟩
  · rw [hr]
    clear hr
    go_enter Try.func44, Try.ntmps44
    go_wp2
    go_ret2
    exact ⟨_, rfl, Ints.nil _ _, Below.refl _ _⟩
  · rw [hr]
    clear hr
    go_enter Try.func44, Try.ntmps44
    go_wp2
    go_ret2
    exact ⟨_, rfl, Ints.lit .i64 w 3 [8, 4, 1, 1, -2, 4, 4] _ rfl (by decide) (by decide), below_alloc2 _⟩
  · rw [hr]
    clear hr
    go_enter Try.func44, Try.ntmps44
    go_wp2
    go_ret2
    exact ⟨_, rfl, Ints.nil _ _, Below.refl _ _⟩
  · rw [hr]
    clear hr
    go_enter Try.func44, Try.ntmps44
    go_wp2
    go_ret2
    exact ⟨_, rfl, Ints.lit .i64 w 3 [2, 2] _ rfl (by decide) (by decide), below_alloc2 _⟩
  · rw [hr]
    clear hr
    go_enter Try.func44, Try.ntmps44
    go_wp2
    go_ret2
    exact ⟨_, rfl, Ints.lit .i64 w 3 [2, 2] _ rfl (by decide) (by decide), below_alloc2 _⟩
  · rw [hr]
    clear hr
    go_enter Try.func44, Try.ntmps44
    go_wp2
    go_ret2
    exact ⟨_, rfl, Ints.lit .i64 w 3 [4, -4, 6, -2, 4, 4, 4, -4] _ rfl (by decide) (by decide), below_alloc2 _⟩
  · rw [hr]
    clear hr
    go_enter Try.func44, Try.ntmps44
    go_wp2
    go_ret2
    exact ⟨_, rfl, Ints.lit .i64 w 3 [1, -3, 4] _ rfl (by decide) (by decide), below_alloc2 _⟩
  · rw [hr]
    clear hr
    go_enter Try.func44, Try.ntmps44
    go_wp2
    go_ret2
    exact ⟨_, rfl, Ints.nil _ _, Below.refl _ _⟩
  · rw [hr]
    clear hr
    go_enter Try.func44, Try.ntmps44
    go_wp2
    go_ret2
    exact ⟨_, rfl, Ints.nil _ _, Below.refl _ _⟩
  · rw [hr]
    clear hr
    go_enter Try.func44, Try.ntmps44
    go_wp2
    go_ret2
    exact ⟨_, rfl, Ints.lit .i64 w 3 [4, -4] _ rfl (by decide) (by decide), below_alloc2 _⟩
  · rw [hr]
    clear hr
    go_enter Try.func44, Try.ntmps44
    go_wp2
    go_ret2
    exact ⟨_, rfl, Ints.lit .i64 w 3 [4, -4, 8] _ rfl (by decide) (by decide), below_alloc2 _⟩
  · rw [hr]
    clear hr
    go_enter Try.func44, Try.ntmps44
    go_wp2
    go_ret2
    exact ⟨_, rfl, Ints.lit .i64 w 3 [4, -4, 8] _ rfl (by decide) (by decide), below_alloc2 _⟩
  · rw [hr]
    clear hr
    go_enter Try.func44, Try.ntmps44
    go_wp2
    go_ret2
    exact ⟨_, rfl, Ints.nil _ _, Below.refl _ _⟩
  · rw [hr]
    clear hr
    go_enter Try.func44, Try.ntmps44
    go_wp2
    go_ret2
    exact ⟨_, rfl, Ints.lit .i64 w 3 [4, 4, 4, 4, 4, 4] _ rfl (by decide) (by decide), below_alloc2 _⟩
  · rw [hr]
    clear hr
    go_enter Try.func44, Try.ntmps44
    go_wp2
    go_ret2
    exact ⟨_, rfl, Ints.lit .i64 w 3 [4, 4, 4, 4, 4, 4] _ rfl (by decide) (by decide), below_alloc2 _⟩
  · rw [hr]
    clear hr
    have b5 : (t == 5) = false := by simpa using h5
    have b6 : (t == 6) = false := by simpa using h6
    have b7 : (t == 7) = false := by simpa using h7
    have b8 : (t == 8) = false := by simpa using h8
    have b9 : (t == 9) = false := by simpa using h9
    have b16 : (t == 16) = false := by simpa using h16
    have b17 : (t == 17) = false := by simpa using h17
    have b20 : (t == 20) = false := by simpa using h20
    have b21 : (t == 21) = false := by simpa using h21
    have b22 : (t == 22) = false := by simpa using h22
    have b24 : (t == 24) = false := by simpa using h24
    have b25 : (t == 25) = false := by simpa using h25
    have b26 : (t == 26) = false := by simpa using h26
    have b27 : (t == 27) = false := by simpa using h27
    have b28 : (t == 28) = false := by simpa using h28
    clear h5 h6 h7 h8 h9 h16 h17 h20 h21 h22 h24 h25 h26 h27 h28
    go_enter Try.func44, Try.ntmps44
    go_wp2
    go_ret2
    exact ⟨_, rfl, Ints.nil _ _, Below.refl _ _⟩

end Go.Proofs.Ytfaklenclhljhaa
