/- What the law 'BufferHolds' needs, in plain Lean: numbers with bytes between them, the places that are held. Conditions: those of each lemma. -/
import Derived.Test.YtdljlcbjpfgmcaaBufC
namespace Go.Proofs.Ytdljlcbjpfgmcaa
open Go.RowKit Go.Maps

/-- Numbers of eight bytes, behind each the bytes btw. -/
def bsOf (btw : List Int) (ys : List Int) : List Int := ys.flatMap (fun y => be 8 y ++ btw)
theorem bsOf_append (btw ys zs : List Int) : bsOf btw (ys ++ zs) = bsOf btw ys ++ bsOf btw zs := by simp [bsOf]
theorem bsOf_one (btw : List Int) (y : Int) : bsOf btw [y] = be 8 y ++ btw := by simp [bsOf]
theorem bsOf_cons (btw : List Int) (y : Int) (ys : List Int) : bsOf btw (y :: ys) = be 8 y ++ btw ++ bsOf btw ys := by simp [bsOf]
theorem bsOf_len (btw ys : List Int) : (bsOf btw ys).length = ys.length * (8 + btw.length) := by
  induction ys with
  | nil => simp [bsOf]
  | cons y ys ih => rw [bsOf_cons, List.length_append, List.length_append, be_length, ih, List.length_cons, Nat.add_mul]; omega
theorem bsOf_u8 {btw : List Int} (h : U8 btw) (ys : List Int) : U8 (bsOf btw ys) := by
  intro z hz
  simp only [bsOf, List.mem_flatMap] at hz
  obtain ⟨y, -, hz⟩ := hz
  exact U8.append (be_u8 8 y) h z hz
theorem bsOf_hold (btw : List Int) (k : Nat) : bsOf btw (List.replicate k 0) ++ List.replicate 8 0 ++ btw = bsOf btw (List.replicate (k + 1) 0) := by
  rw [show List.replicate (k + 1) (0 : Int) = List.replicate k 0 ++ [0] from List.replicate_succ', bsOf_append, bsOf_one, be_zero, List.append_assoc]
theorem bsOf_fill (btw A B : List Int) (y n : Int) : (bsOf btw (A ++ y :: B)).take (A.length * (8 + btw.length)) ++ (be 8 n ++ (bsOf btw (A ++ y :: B)).drop (A.length * (8 + btw.length) + 8)) = bsOf btw (A ++ n :: B) := by
  have hl := bsOf_len btw A
  rw [bsOf_append, bsOf_append, bsOf_cons, bsOf_cons]
  rw [← hl, List.take_left' rfl, List.drop_append, List.drop_of_length_le (by omega), List.nil_append, show (bsOf btw A).length + 8 - (bsOf btw A).length = 8 by omega, List.append_assoc (be 8 y), List.drop_left' (be_length 8 y), List.append_assoc (be 8 n)]
theorem bsOf_at {btw ys : List Int} {i : Nat} (h : i < ys.length) : (bsOf btw ys).drop (i * (8 + btw.length)) = be 8 (ys.getD i 0) ++ btw ++ bsOf btw (ys.drop (i + 1)) := by
  have e : ys = ys.take i ++ ys.getD i 0 :: ys.drop (i + 1) := by
    conv => lhs; rw [← List.take_append_drop i ys, drop_cons h]
  have hl := bsOf_len btw (ys.take i)
  rw [List.length_take, Nat.min_eq_left (by omega)] at hl
  conv => lhs; rw [e, bsOf_append, bsOf_cons]
  rw [← hl, List.drop_left']
  rfl
theorem valL_be8 {n : Int} (h : 0 ≤ n ∧ n < 18446744073709551616) : valL (be 8 n) = n := by
  rw [valL_be]
  exact Int.emod_eq_of_lt h.1 h.2

/-- The places that are held: k of them, c apart; each of eight bytes. -/
def HeldI (c k : Nat) (D : DataW Unit) : Prop :=
  Tidy D ∧ Maps.size D = k ∧ (∀ z : Int, Maps.has D (keyI z) = true ↔ ∃ i, i < k ∧ z = ((i * c : Nat) : Int)) ∧ ∀ i, i < k → ∀ z, D.atKey (keyI ((i * c : Nat) : Int)) z = .lit (.int .i64 8)

theorem keyI_ne {a b : Int} (h : a ≠ b) : keyI a ≠ keyI b := fun e => h (by simp only [keyI] at e; injection e)
theorem keyI_key (a : Int) : WideAt.IsKeyLit (keyI a) := by simp [WideAt.IsKeyLit, keyI]
theorem HeldI.start (c : Nat) : HeldI c 0 (.map []) := ⟨tidy_empty, rfl, fun z => by simp [Maps.has], fun i h => by omega⟩
theorem HeldI.put {c k : Nat} {D : DataW Unit} (hc : 0 < c) (h : HeldI c k D) : HeldI c (k + 1) (D.put (keyI ((k * c : Nat) : Int)) (.lit (.int .i64 8))) := by
  obtain ⟨h1, h2, h3, h4⟩ := h
  have hne : ∀ i, i < k → i * c ≠ k * c := fun i hi e => by have := Nat.eq_of_mul_eq_mul_right hc e; omega
  have hno : Maps.has D (keyI ((k * c : Nat) : Int)) = false := by
    cases hh : Maps.has D (keyI ((k * c : Nat) : Int)) with
    | false => rfl
    | true =>
      obtain ⟨i, hi, e⟩ := (h3 _).1 hh
      exact absurd (by omega) (hne i hi)
  refine ⟨h1.put (keyI_key _) _, by rw [size_put h1, hno]; simp [h2], fun z => ?_, fun i hi z => ?_⟩
  · by_cases hz : z = ((k * c : Nat) : Int)
    · subst hz
      rw [has_put_same h1.isMap (keyI_key _)]
      exact ⟨fun _ => ⟨k, by omega, rfl⟩, fun _ => rfl⟩
    · rw [has_put_other (keyI_ne hz), h3]
      constructor
      · rintro ⟨i, hi, e⟩; exact ⟨i, by omega, e⟩
      · rintro ⟨i, hi, e⟩
        by_cases hik : i = k
        · subst hik; exact absurd e hz
        · exact ⟨i, by omega, e⟩
  · by_cases hik : i = k
    · subst hik
      rw [atKey_put_same h1.isMap (keyI_key _)]
    · rw [atKey_put_other (keyI_ne (fun e => hne i (by omega) (by omega)))]
      exact h4 i (by omega) z
theorem HeldI.del {c k : Nat} {D : DataW Unit} (hc : 0 < c) (h : HeldI c (k + 1) D) : HeldI c k (D.del (keyI ((k * c : Nat) : Int))) := by
  obtain ⟨h1, h2, h3, h4⟩ := h
  have hne : ∀ i, i < k → i * c ≠ k * c := fun i hi e => by have := Nat.eq_of_mul_eq_mul_right hc e; omega
  have hyes : Maps.has D (keyI ((k * c : Nat) : Int)) = true := (h3 _).2 ⟨k, by omega, rfl⟩
  refine ⟨h1.del _, by have := size_del (k := keyI ((k * c : Nat) : Int)) h1; rw [hyes, if_pos rfl] at this; omega, fun z => ?_, fun i hi z => ?_⟩
  · by_cases hz : z = ((k * c : Nat) : Int)
    · subst hz
      rw [has_del_same]
      constructor
      · intro h; cases h
      · rintro ⟨i, hi, e⟩; exact absurd (by omega) (hne i hi)
    · rw [has_del_other (keyI_ne hz), h3]
      constructor
      · rintro ⟨i, hi, e⟩
        by_cases hik : i = k
        · subst hik; exact absurd e hz
        · exact ⟨i, by omega, e⟩
      · rintro ⟨i, hi, e⟩; exact ⟨i, by omega, e⟩
  · rw [atKey_del_other (keyI_ne (fun e => hne i hi (by omega)))]
    exact h4 i (by omega) z

/-- How the buffer stands. -/
def stH (btw ys : List Int) (D : DataW Unit) (k : Nat) : Bf := ⟨bsOf btw ys, 100000, D, 0, k⟩
theorem stH_hold (btw : List Int) (D : DataW Unit) (k : Nat) : (stH btw (List.replicate k 0) D k).hold 8 = ⟨bsOf btw (List.replicate k 0) ++ List.replicate 8 0, 100000, D.put (keyI ((k * (8 + btw.length) : Nat) : Int)) (.lit (.int .i64 8)), 0, k + 1⟩ := by
  show (⟨_, _, _, _, _⟩ : Bf) = _
  rw [show (stH btw (List.replicate k 0) D k).bs.length = k * (8 + btw.length) by show (bsOf btw (List.replicate k 0)).length = _; rw [bsOf_len, List.length_replicate]]
  rfl
theorem stH_bytes {btw : List Int} {D : DataW Unit} {k j : Nat} (h : k * (8 + btw.length) + 8 + btw.length ≤ 100000) : (⟨bsOf btw (List.replicate k 0) ++ List.replicate 8 0, 100000, D, 0, j⟩ : Bf).bytes btw = stH btw (List.replicate (k + 1) 0) D j := by
  rw [bytes_b_fine rfl (by show ¬ ((100000 : Nat) : Int) - ((bsOf btw (List.replicate k 0) ++ List.replicate 8 0).length : Int) < _; rw [List.length_append, bsOf_len, List.length_replicate, List.length_replicate]; generalize k * (8 + btw.length) = q at h ⊢; omega)]
  simp only [stH, bsOf_hold]
theorem stH_fill {btw A B : List Int} {D : DataW Unit} {j : Nat} (n : Int) : (stH btw (A ++ 0 :: B) D j).fill (A.length * (8 + btw.length)) 8 n = stH btw (A ++ n :: B) (D.del (keyI ((A.length * (8 + btw.length) : Nat) : Int))) j := by
  simp only [stH, Bf.fill, bsOf_fill]
end Go.Proofs.Ytdljlcbjpfgmcaa
