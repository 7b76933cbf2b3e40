/- Things that tell their length, in plain Lean: by a shape, the first one, all of them, and them as bytes. Conditions: none. -/
import Derived.Test.YtoobcgakainelaaPlain01
namespace Go.Proofs.Ytoobcgakainelaa

/-- A shape. -/
structure Sh where
  least : Int
  step : Int
  pad : Bool
  bad : Int
  odd : Int

def Sh.may (s : Sh) : Bool := decide (4 ≤ s.least) && decide (s.least ≤ 60000) && decide (1 ≤ s.step) && decide (s.step ≤ 64) && decide (s.bad ≠ 0) && decide (s.odd ≠ 0)
/-- How many zeros stand behind n bytes. -/
def Sh.zeros (s : Sh) (n : Nat) : Nat := if s.pad then (s.step.toNat - n % s.step.toNat) % s.step.toNat else 0
/-- May a thing have n bytes? -/
def Sh.fits (s : Sh) (n : Nat) : Bool := decide (s.least.toNat ≤ n) && (s.pad || decide (n % s.step.toNat = 0))
/-- The length that is told. -/
def told (bs : List Int) : Nat := (valL ((bs.drop 2).take 2)).toNat

/-- The first thing, its bytes, the error. -/
def Sh.one (s : Sh) (bs : List Int) : (Int × List Int) × Nat × Int :=
  if s.may = false then ((0, []), 0, 10001)
  else if bs.length < 4 then ((0, []), 0, s.bad)
  else if s.fits (told bs) = false ∨ bs.length < told bs + s.zeros (told bs) then ((0, []), 0, s.bad)
  else if ((bs.drop (told bs)).take (s.zeros (told bs))).all (· == 0) = false then ((0, []), 0, s.odd)
  else ((valL (bs.take 2), (bs.take (told bs)).drop 4), told bs + s.zeros (told bs), 0)

/-- All of them, in so many steps, behind some. -/
def Sh.cutA (s : Sh) : Nat → List (Int × List Int) → List Int → List (Int × List Int) × Int
  | 0, acc, _ => (acc, 0)
  | f + 1, acc, bs => if bs.length = 0 then (acc, 0) else if (s.one bs).2.2 ≠ 0 then ([], (s.one bs).2.2) else s.cutA f (acc ++ [(s.one bs).1]) (bs.drop (s.one bs).2.1)
def Sh.cut (s : Sh) (bs : List Int) : List (Int × List Int) × Int := if s.may then s.cutA bs.length [] bs else ([], 10001)

/-- May a thing be written? -/
def Sh.good (s : Sh) (x : Int × List Int) : Bool := decide (0 ≤ x.1) && decide (x.1 ≤ 65535) && decide (4 + x.2.length ≤ 65535) && s.fits (4 + x.2.length)
/-- A thing's bytes. -/
def Sh.thing (s : Sh) (x : Int × List Int) : List Int := be 2 x.1 ++ (be 2 (4 + x.2.length : Nat) ++ (x.2 ++ List.replicate (s.zeros (4 + x.2.length)) 0))
def Sh.all (s : Sh) (l : List (Int × List Int)) : List Int := (l.map s.thing).flatten
def Sh.join (s : Sh) (l : List (Int × List Int)) : List Int × Int := if s.may && l.all s.good then (s.all l, 0) else ([], 10001)

theorem Sh.may_iff {s : Sh} : s.may = true ↔ 4 ≤ s.least ∧ s.least ≤ 60000 ∧ 1 ≤ s.step ∧ s.step ≤ 64 ∧ s.bad ≠ 0 ∧ s.odd ≠ 0 := by
  simp [Sh.may, and_assoc]

theorem told_lt {bs : List Int} (hb : U8 bs) : told bs < 65536 := by
  have h := valL_bd (b := (bs.drop 2).take 2) (fun z hz => hb z (List.mem_of_mem_drop (List.mem_of_mem_take hz)))
  have hl : ((bs.drop 2).take 2).length ≤ 2 := by simp; omega
  have h3 : (256 : Int) ^ ((bs.drop 2).take 2).length ≤ 256 ^ 2 := by
    have := Nat.pow_le_pow_right (n := 256) (by omega) hl
    have h' : ((256 ^ ((bs.drop 2).take 2).length : Nat) : Int) ≤ ((256 ^ 2 : Nat) : Int) := Int.ofNat_le.2 this
    simpa [Int.natCast_pow] using h'
  unfold told
  have : (256 : Int) ^ 2 = 65536 := by decide
  omega
theorem told_eq {bs : List Int} (hb : U8 bs) : valL ((bs.drop 2).take 2) = (told bs : Int) := by
  have h := valL_bd (b := (bs.drop 2).take 2) (fun z hz => hb z (List.mem_of_mem_drop (List.mem_of_mem_take hz)))
  unfold told
  omega

theorem Sh.zeros_lt {s : Sh} (h : s.may = true) (n : Nat) : s.zeros n < 64 := by
  have := Sh.may_iff.1 h
  unfold Sh.zeros
  split
  · have := Nat.mod_lt (s.step.toNat - n % s.step.toNat) (show 0 < s.step.toNat by omega)
    omega
  · omega

theorem Sh.one_ok {s : Sh} {bs : List Int} (h : (s.one bs).2.2 = 0) : s.may = true ∧ 4 ≤ (s.one bs).2.1 ∧ (s.one bs).2.1 ≤ bs.length := by
  unfold Sh.one at h ⊢
  split
  · rename_i h1; rw [if_pos h1] at h; simp at h
  · rename_i h1
    rw [if_neg h1] at h
    have hm : s.may = true := by simpa using h1
    have hm' := Sh.may_iff.1 hm
    split
    · rename_i h2; rw [if_pos h2] at h; exact absurd h hm'.2.2.2.2.1
    · rename_i h2
      rw [if_neg h2] at h
      split
      · rename_i h3; rw [if_pos h3] at h; exact absurd h hm'.2.2.2.2.1
      · rename_i h3
        rw [if_neg h3] at h
        split
        · rename_i h4; rw [if_pos h4] at h; exact absurd h hm'.2.2.2.2.2
        · refine ⟨hm, ?_, ?_⟩
          · show 4 ≤ told bs + _
            have : s.fits (told bs) = true := by
              cases hf : s.fits (told bs) with
              | true => rfl
              | false => exact absurd (.inl hf) h3
            simp only [Sh.fits, Bool.and_eq_true, decide_eq_true_eq] at this
            omega
          · show told bs + _ ≤ _
            have : ¬ bs.length < told bs + s.zeros (told bs) := fun h => h3 (.inr h)
            omega

/-- More steps than bytes make no difference. -/
theorem Sh.cutA_fuel {s : Sh} : ∀ (f g : Nat) (acc : List (Int × List Int)) (bs : List Int), bs.length ≤ f → bs.length ≤ g → s.cutA f acc bs = s.cutA g acc bs := by
  intro f
  induction f with
  | zero =>
    intro g acc bs hf hg
    cases g with
    | zero => rfl
    | succ g => simp only [Sh.cutA]; rw [if_pos (by omega)]
  | succ f ih =>
    intro g acc bs hf hg
    cases g with
    | zero => simp only [Sh.cutA]; rw [if_pos (by omega)]
    | succ g =>
      simp only [Sh.cutA]
      split
      · rfl
      · split
        · rfl
        · rename_i h1 h2
          have h3 : (s.one bs).2.2 = 0 := by simpa using h2
          have := Sh.one_ok h3
          exact ih g _ _ (by rw [List.length_drop]; omega) (by rw [List.length_drop]; omega)

/-- The cutting so far: acc is cut, rest is left. -/
def Cutting (s : Sh) (bs : List Int) (acc : List (Int × List Int)) (rest : List Int) : Prop := s.cut bs = s.cutA rest.length acc rest
theorem Cutting.start {s : Sh} {bs : List Int} (h : s.may = true) : Cutting s bs [] bs := by unfold Cutting Sh.cut; rw [h]; rfl
theorem Cutting.done {s : Sh} {bs : List Int} {acc : List (Int × List Int)} {rest : List Int} (h : Cutting s bs acc rest) (h0 : rest.length = 0) : s.cut bs = (acc, 0) := by
  unfold Cutting at h; rw [h, h0]; rfl
theorem Cutting.fails {s : Sh} {bs : List Int} {acc : List (Int × List Int)} {rest : List Int} (h : Cutting s bs acc rest) (h0 : 0 < rest.length) (h1 : (s.one rest).2.2 ≠ 0) : s.cut bs = ([], (s.one rest).2.2) := by
  unfold Cutting at h
  rw [h, show rest.length = (rest.length - 1) + 1 by omega]
  simp only [Sh.cutA]
  rw [if_neg (by omega), if_pos h1]
theorem Cutting.next {s : Sh} {bs : List Int} {acc : List (Int × List Int)} {rest : List Int} (h : Cutting s bs acc rest) (h0 : 0 < rest.length) (h1 : (s.one rest).2.2 = 0) : Cutting s bs (acc ++ [(s.one rest).1]) (rest.drop (s.one rest).2.1) := by
  unfold Cutting at h ⊢
  have := Sh.one_ok h1
  rw [h, show rest.length = (rest.length - 1) + 1 by omega]
  simp only [Sh.cutA]
  rw [if_neg (by omega), if_neg (by simp [h1])]
  exact Sh.cutA_fuel _ _ _ _ (by rw [List.length_drop]; omega) (Nat.le_refl _)

end Go.Proofs.Ytoobcgakainelaa
