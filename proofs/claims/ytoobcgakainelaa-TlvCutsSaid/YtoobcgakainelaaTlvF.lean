/- tlv.One: its contract. Conditions: the argument reads as bytes, at most 10^9. -/
import Derived.Test.YtoobcgakainelaaTlvD
namespace Go.Proofs.Ytoobcgakainelaa
open Go.RowKit

theorem tlv_one {s : Sh} {v : Value} {bs : List Int} {w : World} (h : Ints .u8 w v bs) (hl : bs.length ≤ 1000000000) : Calls Try.prog 10 #[s.val, v] w (GotOne s bs w) := by
  cases hm : s.may with
  | false => exact one_may hm
  | true =>
    by_cases h4 : bs.length < 4
    · exact one_short hm h h4
    · cases hf : s.fits (told bs) with
      | false => exact one_unfit hm h (by omega) hl hf
      | true =>
        by_cases hz : bs.length < told bs + s.zeros (told bs)
        · exact one_long hm h (by omega) hl hf hz
        · exact one_there hm h (by omega) hl hf (by omega)

theorem one_u8 {s : Sh} {bs : List Int} (hb : U8 bs) : U8 (s.one bs).1.2 ∧ 0 ≤ (s.one bs).1.1 ∧ (s.one bs).1.1 < 65536 := by
  unfold Sh.one
  split
  · exact ⟨fun z hz => by simp at hz, by simp, by simp⟩
  · split
    · exact ⟨fun z hz => by simp at hz, by simp, by simp⟩
    · split
      · exact ⟨fun z hz => by simp at hz, by simp, by simp⟩
      · split
        · exact ⟨fun z hz => by simp at hz, by simp, by simp⟩
        · have hv := valL_bd (b := bs.take 2) (fun z hz => hb z (List.mem_of_mem_take hz))
          rw [show (bs.take 2).length = 2 by simp; omega, show (256 : Int) ^ 2 = 65536 by decide] at hv
          exact ⟨fun z hz => hb z (List.mem_of_mem_take (List.mem_of_mem_drop hz)), hv.1, hv.2⟩
theorem one_len {s : Sh} (bs : List Int) : (s.one bs).1.2.length ≤ bs.length := by
  unfold Sh.one
  split
  · simp
  · split
    · simp
    · split
      · simp
      · split
        · simp
        · simp; omega
end Go.Proofs.Ytoobcgakainelaa
