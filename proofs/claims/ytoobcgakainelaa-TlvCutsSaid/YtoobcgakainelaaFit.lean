/- How a value of any type made of integers, truth values, texts, slices, structs and arrays is opened, cell by cell, to any depth. Conditions: the value reads as data. -/
import Derived.Test.YtoobcgakainelaaBase
import Derived.Deep.Slices
import Derived.ChangeSame
namespace Go.Proofs.Ytoobcgakainelaa
open Go.RowKit Go.ChangeShapes Go.WideShapes Go.Deep

/-- The type of cell j of a value of type t. -/
def leafTy (P : Program) : Nat → TypeId → Nat → Option TypeId
  | 0, _, _ => none
  | m + 1, t, j =>
    match P.underlying t with
    | some (.struct fs) =>
      match fs.toList.find? (fun f => decide (f.offset ≤ j) && decide (j < f.offset + P.cellsOf f.type)) with
      | some f => leafTy P m f.type (j - f.offset)
      | none => none
    | some (.array n e) => if j < n * P.cellsOf e then leafTy P m e (j % P.cellsOf e) else none
    | _ => if j = 0 then some t else none

def scal (P : Program) (t : TypeId) : Bool :=
  match P.underlying t with
  | some .bool | some (.int _) | some .string | some (.slice _) => true
  | _ => false

theorem trod_array {H : Type} {enc : TypeId × Value → H} {P : Program} {w : World} {base : Nat} {spare : Nat → Bool} {held : Bool} {fuel : Nat} {t e : TypeId} {k : Nat} {cs : List Value} {x : DataW H × List MemPlace} (ht : P.underlying t = some (.array k e)) (h : DataW.trod enc P w base spare held fuel t cs = some x) :
    ∃ (xs : List (DataW H × List MemPlace)) (n : Nat), fuel = n + 1 ∧ xs.length = k ∧ ∀ i, i < k → DataW.trod enc P w base spare held n e ((cs.drop (i * P.cellsOf e)).take (P.cellsOf e)) = xs[i]? := by
  cases fuel with
  | zero => simp [DataW.trod] at h
  | succ n =>
    unfold DataW.trod at h
    rw [ht] at h
    split at h <;> simp_all
    obtain ⟨hl, xs, hp, hd⟩ := h
    exact ⟨xs, by simpa using mapM_some_length hp, fun i hi => mapM_some_get hp i i (by simp [hi])⟩

theorem take_drop_get {cs : List Value} {o n j : Nat} {v : Value} (h : ((cs.drop o).take n)[j]? = some v) : cs[o + j]? = some v := by
  rw [List.getElem?_take] at h
  split at h
  · rwa [List.getElem?_drop] at h
  · simp at h

theorem trod_leaf {H : Type} {enc : TypeId × Value → H} {P : Program} {w : World} {base : Nat} {spare : Nat → Bool} {held : Bool} : ∀ (m : Nat) {fuel : Nat} {t t' : TypeId} {cs : List Value} {x : DataW H × List MemPlace} {j : Nat},
    DataW.trod enc P w base spare held fuel t cs = some x → leafTy P m t j = some t' → scal P t' = true →
    ∃ v y n, n ≤ fuel ∧ cs[j]? = some v ∧ DataW.trod enc P w base spare held n t' [v] = some y := by
  intro m
  induction m with
  | zero => intro fuel t t' cs x j _ hl; simp [leafTy] at hl
  | succ m ih =>
    intro fuel t t' cs x j h hl hsc
    unfold leafTy at hl
    split at hl
    · rename_i fs hu
      split at hl
      · rename_i f hf
        obtain ⟨xs, n, rfl, -, -, hlen, hg⟩ := DataW.trod_struct hu h
        have hp := List.find?_some hf
        simp only [Bool.and_eq_true, decide_eq_true_eq] at hp
        obtain ⟨i, hi⟩ := List.getElem?_of_mem (List.mem_of_find?_eq_some hf)
        have h1 := hg i f (by simpa using hi)
        have hil : i < xs.length := by
          have := (List.getElem?_eq_some_iff.1 hi).1
          rw [hlen]; simpa using this
        rw [List.getElem?_eq_getElem hil] at h1
        obtain ⟨v, y, n', hn, hv, hy⟩ := ih h1 hl hsc
        refine ⟨v, y, n', by omega, ?_, hy⟩
        have := take_drop_get hv
        rwa [show f.offset + (j - f.offset) = j by omega] at this
      · simp at hl
    · rename_i k e hu
      split at hl
      · rename_i hj
        obtain ⟨xs, n, rfl, hlen, hg⟩ := trod_array hu h
        have hC : 0 < P.cellsOf e := by
          rcases Nat.eq_zero_or_pos (P.cellsOf e) with h0 | h0
          · rw [h0] at hj; simp at hj
          · exact h0
        have hd : j / P.cellsOf e < k := (Nat.div_lt_iff_lt_mul hC).2 hj
        have h1 := hg _ hd
        rw [List.getElem?_eq_getElem (by omega)] at h1
        obtain ⟨v, y, n', hn, hv, hy⟩ := ih h1 hl hsc
        refine ⟨v, y, n', by omega, ?_, hy⟩
        have := take_drop_get hv
        rwa [show j / P.cellsOf e * P.cellsOf e + j % P.cellsOf e = j by rw [Nat.mul_comm]; exact Nat.div_add_mod _ _] at this
      · simp at hl
    · rename_i h1 h2
      split at hl
      · rename_i hj
        subst hj
        injection hl with hl
        subst hl
        have : ∃ v, cs = [v] := by
          unfold scal at hsc
          split at hsc
          · rename_i hu; obtain ⟨b, rfl, -⟩ := DataW.trod_bool hu h; exact ⟨_, rfl⟩
          · rename_i k hu; obtain ⟨b, rfl, -⟩ := DataW.trod_int hu h; exact ⟨_, rfl⟩
          · rename_i hu; obtain ⟨b, rfl, -⟩ := DataW.trod_string hu h; exact ⟨_, rfl⟩
          · rename_i e hu
            rcases DataW.trod_slice hu h with ⟨rfl, -⟩ | ⟨a, l, c, _, _, _, _, rfl, _⟩ <;> exact ⟨_, rfl⟩
          · simp at hsc
        obtain ⟨v, rfl⟩ := this
        exact ⟨v, x, fuel, Nat.le_refl _, rfl, h⟩
      · simp at hl

/-- The value fits the type in the world. -/
inductive Fit (P : Program) (w : World) : TypeId → Value → Prop
  | bool {t : TypeId} (b : Bool) : P.underlying t = some .bool → Fit P w t (.bool b)
  | int {t : TypeId} {k : IntKind} (n : Int) : P.underlying t = some (.int k) → (Lit.int k n).wf = true → Fit P w t (.int k n)
  | text {t : TypeId} (s : ByteArray) : P.underlying t = some .string → s.size ≤ maxLen → Fit P w t (.string s)
  | nil {t e : TypeId} : P.underlying t = some (.slice e) → Fit P w t (.slice none 0 0)
  | row {t e : TypeId} (a : Addr) (len cap : Nat) (u : Nat → Nat → Value) : P.underlying t = some (.slice e) → len ≤ cap → cap ≤ maxLen →
      (∀ i j, i < len → j < P.cellsOf e → w.cell? ((a.add (i * P.cellsOf e)).add j) = some (u i j)) →
      (∀ i j t', i < len → leafTy P 9 e j = some t' → scal P t' = true → Fit P w t' (u i j)) → Fit P w t (.slice (some a) len cap)

/-- .. and so do the cells of a value of several cells. -/
def FitRow (P : Program) (w : World) (t : TypeId) (u : Nat → Value) : Prop := ∀ j t', leafTy P 9 t j = some t' → scal P t' = true → Fit P w t' (u j)

theorem fit_of_trod {H : Type} {enc : TypeId × Value → H} {P : Program} {w : World} {base : Nat} {spare : Nat → Bool} {held : Bool} : ∀ (N : Nat) {fuel : Nat} {t : TypeId} {v : Value} {x : DataW H × List MemPlace}, fuel < N →
    DataW.trod enc P w base spare held fuel t [v] = some x → scal P t = true → Fit P w t v := by
  intro N
  induction N with
  | zero => intro fuel t v x h; omega
  | succ N ih =>
    intro fuel t v x hN h hsc
    unfold scal at hsc
    split at hsc
    · rename_i hu; obtain ⟨b, e, -⟩ := DataW.trod_bool hu h; injection e with e; subst e; exact .bool b hu
    · rename_i k hu; obtain ⟨b, e, -, hw⟩ := DataW.trod_int hu h; injection e with e; subst e; exact .int b hu hw
    · rename_i hu; obtain ⟨b, e, -, hw⟩ := DataW.trod_string hu h; injection e with e; subst e; exact .text b hu hw
    · rename_i e hu
      rcases DataW.trod_slice hu h with ⟨h0, -⟩ | ⟨a, len, cap, elems, rest, n, hn, h0, -, -, hl, hm, hlen, hel, -⟩
      · injection h0 with h0; subst h0; exact .nil hu
      · injection h0 with h0; subst h0
        have key : ∀ i, i < len → ∃ cs', w.cells? base (a.add (i * P.cellsOf e)) (P.cellsOf e) = some cs' ∧ ∃ y, DataW.trod enc P w base spare held n e cs' = some y := by
          intro i hi
          have h1 := hel i hi
          rw [List.getElem?_eq_getElem (by omega)] at h1
          obtain ⟨cs', h2, h3⟩ := Option.bind_eq_some_iff.1 h1
          exact ⟨cs', h2, _, h3⟩
        refine .row a len cap (fun i j => (w.cell? ((a.add (i * P.cellsOf e)).add j)).getD undef) hu hl hm (fun i j hi hj => ?_) (fun i j t' hi hlf hs => ?_)
        · obtain ⟨cs', h2, y, h3⟩ := key i hi
          obtain ⟨-, hcl, hat⟩ := World.cells?_some h2
          show _ = some ((w.cell? ((a.add (i * P.cellsOf e)).add j)).getD undef)
          rw [hat j hj, List.getElem?_eq_getElem (by omega)]
          rfl
        · obtain ⟨cs', h2, y, h3⟩ := key i hi
          obtain ⟨-, hcl, hat⟩ := World.cells?_some h2
          obtain ⟨v, y', n', hn', hv, hy⟩ := trod_leaf 9 h3 hlf hs
          have hj : j < P.cellsOf e := by
            have := (List.getElem?_eq_some_iff.1 hv).1
            omega
          have := ih (by omega) hy hs
          show Fit P w t' ((w.cell? ((a.add (i * P.cellsOf e)).add j)).getD undef)
          rw [hat j hj, hv]
          exact this
    · simp at hsc

theorem Fit.since {P : Program} {w w' : World} {t : TypeId} {v : Value} (h : Fit P w t v) (hb : Below w.heap.size w w') : Fit P w' t v := by
  induction h with
  | bool b hu => exact .bool b hu
  | int n hu hw => exact .int n hu hw
  | text s hu hw => exact .text s hu hw
  | nil hu => exact .nil hu
  | row a len cap u hu hl hm hc _ ih => exact .row a len cap u hu hl hm (fun i j hi hj => (hb.cell (World.block_lt_of_cell? _ _ (hc i j hi hj))).trans (hc i j hi hj)) ih

theorem FitRow.since {P : Program} {w w' : World} {t : TypeId} {u : Nat → Value} (h : FitRow P w t u) (hb : Below w.heap.size w w') : FitRow P w' t u := fun j t' h1 h2 => (h j t' h1 h2).since hb

theorem Fit.opens {P : Program} {w : World} {t e : TypeId} {C : Nat} {v : Value} (h : Fit P w t v) (ht : P.underlying t = some (.slice e)) (hC : P.cellsOf e = C) (h0 : 0 < C) :
    ∃ (a : Option Addr) (n cap b off : Nat) (u : Nat → Nat → Value), v = .slice a n cap ∧ n ≤ cap ∧ cap ≤ maxLen ∧ (0 < n → a = some ⟨b, off, none⟩) ∧
      (∀ i j, i < n → j < C → w.cell? ⟨b, off + i * C + j, none⟩ = some (u i j)) ∧ (∀ i, i < n → FitRow P w e (u i)) := by
  subst hC
  cases h with
  | bool b hu => rw [hu] at ht; cases ht
  | int n hu hw => rw [hu] at ht; cases ht
  | text s hu hw => rw [hu] at ht; cases ht
  | nil hu => exact ⟨none, 0, 0, 0, 0, fun _ _ => undef, rfl, Nat.le_refl _, Nat.zero_le _, fun h => by simp at h, fun i j h => by simp at h, fun i h => by simp at h⟩
  | @row _ e' a len cap u hu hl hm hc hf =>
    rw [hu] at ht
    injection ht with ht
    injection ht with ht
    subst ht
    obtain ⟨b, off, spot⟩ := a
    by_cases hn : 0 < len
    · have hs : spot = none := by
        have h1 := hc 0 0 hn h0
        rw [Go.Deep.add_add] at h1
        have := World.cell?_spot h1
        simpa [Addr.add] using this
      subst hs
      refine ⟨_, len, cap, b, off, u, rfl, hl, hm, fun _ => rfl, fun i j hi hj => ?_, fun i hi j t' h1 h2 => hf i j t' hi h1 h2⟩
      have := hc i j hi hj
      rwa [add_at, add_at] at this
    · exact ⟨_, len, cap, b, off, u, rfl, hl, hm, fun h => absurd h hn, fun i j h => by omega, fun i h => by omega⟩

theorem Fit.slice {P : Program} {w : World} {t e : TypeId} {v : Value} (h : Fit P w t v) (ht : P.underlying t = some (.slice e)) : ∃ (a : Option Addr) (n cap : Nat), v = .slice a n cap ∧ n ≤ cap ∧ cap ≤ maxLen := by
  cases h with
  | bool b hu => rw [hu] at ht; cases ht
  | int n hu hw => rw [hu] at ht; cases ht
  | text s hu hw => rw [hu] at ht; cases ht
  | nil hu => exact ⟨_, _, _, rfl, Nat.le_refl _, Nat.zero_le _⟩
  | row a len cap u hu hl hm hc hf => exact ⟨_, _, _, rfl, hl, hm⟩

theorem Fit.asInt {P : Program} {w : World} {t : TypeId} {k : IntKind} {v : Value} (h : Fit P w t v) (ht : P.underlying t = some (.int k)) : ∃ n, v = .int k n ∧ (Lit.int k n).wf = true := by
  cases h with
  | bool b hu => rw [hu] at ht; cases ht
  | @int _ k' n hu hw => rw [hu] at ht; injection ht with ht; injection ht with ht; subst ht; exact ⟨n, rfl, hw⟩
  | text s hu hw => rw [hu] at ht; cases ht
  | nil hu => rw [hu] at ht; cases ht
  | row a len cap u hu hl hm hc hf => rw [hu] at ht; cases ht

theorem Fit.asText {P : Program} {w : World} {t : TypeId} {v : Value} (h : Fit P w t v) (ht : P.underlying t = some .string) : ∃ s : ByteArray, v = .string s ∧ s.size ≤ maxLen := by
  cases h with
  | bool b hu => rw [hu] at ht; cases ht
  | int n hu hw => rw [hu] at ht; cases ht
  | text s hu hw => exact ⟨s, rfl, hw⟩
  | nil hu => rw [hu] at ht; cases ht
  | row a len cap u hu hl hm hc hf => rw [hu] at ht; cases ht

theorem Fit.ints {P : Program} {w : World} {t e : TypeId} {k : IntKind} {v : Value} (h : Fit P w t v) (ht : P.underlying t = some (.slice e)) (he : P.underlying e = some (.int k)) (hC : P.cellsOf e = 1) : ∃ zs, Ints k w v zs := by
  cases h with
  | bool b hu => rw [hu] at ht; cases ht
  | int n hu hw => rw [hu] at ht; cases ht
  | text s hu hw => rw [hu] at ht; cases ht
  | nil hu => exact ⟨[], Ints.nil k w⟩
  | @row _ e' a len cap u hu hl hm hc hf =>
    rw [hu] at ht
    injection ht with ht
    injection ht with ht
    subst ht
    have hlf : leafTy P 9 e' 0 = some e' := by
      unfold leafTy
      rw [he]
      rfl
    have hsc : scal P e' = true := by unfold scal; rw [he]
    have each : ∀ i, i < len → ∃ n, u i 0 = .int k n ∧ (Lit.int k n).wf = true := fun i hi => (hf i 0 e' hi hlf hsc).asInt he
    obtain ⟨b, off, spot⟩ := a
    rw [hC] at hc
    by_cases hn : 0 < len
    · have hs : spot = none := by
        have h1 := hc 0 0 hn (by omega)
        rw [Go.Deep.add_add] at h1
        have := World.cell?_spot h1
        simpa [Addr.add] using this
      subst hs
      refine ⟨(List.range len).map fun i => intOf (u i 0), Ints.mk (b := b) (off := off) (by simp) hl hm (by simp) (fun _ => rfl) (fun i hi => ?_) (fun z hz => ?_)⟩
      · have := hc i 0 hi (by omega)
        rw [add_at, add_at] at this
        obtain ⟨n, hn, -⟩ := each i hi
        rw [hn] at this
        rw [show off + i = off + i * 1 + 0 by omega, this]
        simp [List.getD, hi, hn, intOf]
      · obtain ⟨i, hi, rfl⟩ := List.mem_map.1 hz
        obtain ⟨n, hn, hw⟩ := each i (by simpa using hi)
        rw [hn]; exact hw
    · have h00 : len = 0 := by omega
      subst h00
      exact ⟨[], Ints.mk (b := 0) (off := 0) rfl hl hm (by simp) (fun h => by simp at h) (fun i h => by simp at h) (fun z hz => by simp at hz)⟩

/-- A struct that came in by value. -/
theorem fit_struct {H : Type} {enc : TypeId × Value → H} {P : Program} {W : World} {base b0 : Nat} {r : Reach} {sp : Nat → Bool} {hd : Bool} {t : TypeId} {fs : Array Field} {v : Value} {d : DataW H} {p : List MemPlace} (ht : P.underlying t = some (.struct fs))
    (hok : Value.okWide P W r b0 t v) (h : DataW.Trod enc P W base sp hd t v d p) : ∃ cs : Array Value, v = .agg cs ∧ cs.size = P.cellsOf t ∧ FitRow P W t (fun j => cs.getD j undef) := by
  obtain ⟨cs, rfl, hsz⟩ := okWide_struct ht hok
  refine ⟨cs, rfl, hsz, fun j t' hl hs => ?_⟩
  obtain ⟨fuel, hf⟩ := h
  obtain ⟨v, y, n, -, hv, hy⟩ := trod_leaf 9 hf hl hs
  have hv' : cs[j]? = some v := by simpa [Value.cells] using hv
  have := fit_of_trod (n + 1) (Nat.lt_succ_self n) hy hs
  show Fit P W t' (cs.getD j undef)
  rw [Array.getD_eq_getD_getElem?, hv']
  exact this

/-- A slice that came in. -/
theorem fit_slice {H : Type} {enc : TypeId × Value → H} {P : Program} {W : World} {base : Nat} {sp : Nat → Bool} {hd : Bool} {t e : TypeId} {a : Option Addr} {n c : Nat} {d : DataW H} {p : List MemPlace} (ht : P.underlying t = some (.slice e))
    (h : DataW.Trod enc P W base sp hd t (.slice a n c) d p) : Fit P W t (.slice a n c) := by
  obtain ⟨fuel, hf⟩ := h
  have hs : scal P t = true := by unfold scal; rw [ht]
  exact fit_of_trod (fuel + 1) (Nat.lt_succ_self _) (by simpa [Value.cells] using hf) hs
end Go.Proofs.Ytoobcgakainelaa
