/- How a value of any type made of integers, truth values, texts, slices, structs and arrays is opened, cell by cell, to any depth. Conditions: the value reads as data. How an argument that is read as data comes to a walk: a slice of integers as the list that it holds. An argument that is a slice of structs, as a list. Conditions: none beyond each lemma's own. A shape and a list of things that a statement is called with. Conditions: none beyond each lemma's own. -/
import Derived.Test.YtcebcncpbedkmaaGreatZBase
import Derived.Deep.Slices
import Derived.ChangeSame
import Derived.Test.YtcebcncpbedkmaaGreatRows
import Derived.OpenShut
import Derived.ShutString
import Derived.ChangeOld
import Derived.Test.YtcebcncpbedkmaaGreatZCurA
import Derived.Test.YtcebcncpbedkmaaGreatZPlain01
namespace Go.Proofs.YtcebcncpbedkmaaGreat
open Go.RowKit Go.ChangeShapes Go.WideShapes Go.Deep

/-- The type of cell j of a value of type t. -/
def leafTy (P : Program) : Nat → TypeId → Nat → Option TypeId
  | 0, _, _ => none
  | m + 1, t, j =>
    match P.underlying t with
    | some (.struct fs) =>
      match fs.toList.find? (fun f => decide (f.offset ≤ j) && decide (j < f.offset + P.cellsOf f.type)) with
      | some f => leafTy P m f.type (j - f.offset)
      | none => none
    | some (.array n e) => if j < n * P.cellsOf e then leafTy P m e (j % P.cellsOf e) else none
    | _ => if j = 0 then some t else none

def scal (P : Program) (t : TypeId) : Bool :=
  match P.underlying t with
  | some .bool | some (.int _) | some .string | some (.slice _) => true
  | _ => false

theorem trod_array {H : Type} {enc : TypeId × Value → H} {P : Program} {w : World} {base : Nat} {spare : Nat → Bool} {held : Bool} {fuel : Nat} {t e : TypeId} {k : Nat} {cs : List Value} {x : DataW H × List MemPlace} (ht : P.underlying t = some (.array k e)) (h : DataW.trod enc P w base spare held fuel t cs = some x) :
    ∃ (xs : List (DataW H × List MemPlace)) (n : Nat), fuel = n + 1 ∧ xs.length = k ∧ ∀ i, i < k → DataW.trod enc P w base spare held n e ((cs.drop (i * P.cellsOf e)).take (P.cellsOf e)) = xs[i]? := by
  cases fuel with
  | zero => simp [DataW.trod] at h
  | succ n =>
    unfold DataW.trod at h
    rw [ht] at h
    split at h <;> simp_all
    obtain ⟨hl, xs, hp, hd⟩ := h
    exact ⟨xs, by simpa using mapM_some_length hp, fun i hi => mapM_some_get hp i i (by simp [hi])⟩

theorem take_drop_get {cs : List Value} {o n j : Nat} {v : Value} (h : ((cs.drop o).take n)[j]? = some v) : cs[o + j]? = some v := by
  rw [List.getElem?_take] at h
  split at h
  · rwa [List.getElem?_drop] at h
  · simp at h

theorem trod_leaf {H : Type} {enc : TypeId × Value → H} {P : Program} {w : World} {base : Nat} {spare : Nat → Bool} {held : Bool} : ∀ (m : Nat) {fuel : Nat} {t t' : TypeId} {cs : List Value} {x : DataW H × List MemPlace} {j : Nat},
    DataW.trod enc P w base spare held fuel t cs = some x → leafTy P m t j = some t' → scal P t' = true →
    ∃ v y n, n ≤ fuel ∧ cs[j]? = some v ∧ DataW.trod enc P w base spare held n t' [v] = some y := by
  intro m
  induction m with
  | zero => intro fuel t t' cs x j _ hl; simp [leafTy] at hl
  | succ m ih =>
    intro fuel t t' cs x j h hl hsc
    unfold leafTy at hl
    split at hl
    · rename_i fs hu
      split at hl
      · rename_i f hf
        obtain ⟨xs, n, rfl, -, -, hlen, hg⟩ := DataW.trod_struct hu h
        have hp := List.find?_some hf
        simp only [Bool.and_eq_true, decide_eq_true_eq] at hp
        obtain ⟨i, hi⟩ := List.getElem?_of_mem (List.mem_of_find?_eq_some hf)
        have h1 := hg i f (by simpa using hi)
        have hil : i < xs.length := by
          have := (List.getElem?_eq_some_iff.1 hi).1
          rw [hlen]; simpa using this
        rw [List.getElem?_eq_getElem hil] at h1
        obtain ⟨v, y, n', hn, hv, hy⟩ := ih h1 hl hsc
        refine ⟨v, y, n', by omega, ?_, hy⟩
        have := take_drop_get hv
        rwa [show f.offset + (j - f.offset) = j by omega] at this
      · simp at hl
    · rename_i k e hu
      split at hl
      · rename_i hj
        obtain ⟨xs, n, rfl, hlen, hg⟩ := trod_array hu h
        have hC : 0 < P.cellsOf e := by
          rcases Nat.eq_zero_or_pos (P.cellsOf e) with h0 | h0
          · rw [h0] at hj; simp at hj
          · exact h0
        have hd : j / P.cellsOf e < k := (Nat.div_lt_iff_lt_mul hC).2 hj
        have h1 := hg _ hd
        rw [List.getElem?_eq_getElem (by omega)] at h1
        obtain ⟨v, y, n', hn, hv, hy⟩ := ih h1 hl hsc
        refine ⟨v, y, n', by omega, ?_, hy⟩
        have := take_drop_get hv
        rwa [show j / P.cellsOf e * P.cellsOf e + j % P.cellsOf e = j by rw [Nat.mul_comm]; exact Nat.div_add_mod _ _] at this
      · simp at hl
    · rename_i h1 h2
      split at hl
      · rename_i hj
        subst hj
        injection hl with hl
        subst hl
        have : ∃ v, cs = [v] := by
          unfold scal at hsc
          split at hsc
          · rename_i hu; obtain ⟨b, rfl, -⟩ := DataW.trod_bool hu h; exact ⟨_, rfl⟩
          · rename_i k hu; obtain ⟨b, rfl, -⟩ := DataW.trod_int hu h; exact ⟨_, rfl⟩
          · rename_i hu; obtain ⟨b, rfl, -⟩ := DataW.trod_string hu h; exact ⟨_, rfl⟩
          · rename_i e hu
            rcases DataW.trod_slice hu h with ⟨rfl, -⟩ | ⟨a, l, c, _, _, _, _, rfl, _⟩ <;> exact ⟨_, rfl⟩
          · simp at hsc
        obtain ⟨v, rfl⟩ := this
        exact ⟨v, x, fuel, Nat.le_refl _, rfl, h⟩
      · simp at hl

/-- The value fits the type in the world. -/
inductive Fit (P : Program) (w : World) : TypeId → Value → Prop
  | bool {t : TypeId} (b : Bool) : P.underlying t = some .bool → Fit P w t (.bool b)
  | int {t : TypeId} {k : IntKind} (n : Int) : P.underlying t = some (.int k) → (Lit.int k n).wf = true → Fit P w t (.int k n)
  | text {t : TypeId} (s : ByteArray) : P.underlying t = some .string → s.size ≤ maxLen → Fit P w t (.string s)
  | nil {t e : TypeId} : P.underlying t = some (.slice e) → Fit P w t (.slice none 0 0)
  | row {t e : TypeId} (a : Addr) (len cap : Nat) (u : Nat → Nat → Value) : P.underlying t = some (.slice e) → len ≤ cap → cap ≤ maxLen →
      (∀ i j, i < len → j < P.cellsOf e → w.cell? ((a.add (i * P.cellsOf e)).add j) = some (u i j)) →
      (∀ i j t', i < len → leafTy P 9 e j = some t' → scal P t' = true → Fit P w t' (u i j)) → Fit P w t (.slice (some a) len cap)

/-- .. and so do the cells of a value of several cells. -/
def FitRow (P : Program) (w : World) (t : TypeId) (u : Nat → Value) : Prop := ∀ j t', leafTy P 9 t j = some t' → scal P t' = true → Fit P w t' (u j)

theorem fit_of_trod {H : Type} {enc : TypeId × Value → H} {P : Program} {w : World} {base : Nat} {spare : Nat → Bool} {held : Bool} : ∀ (N : Nat) {fuel : Nat} {t : TypeId} {v : Value} {x : DataW H × List MemPlace}, fuel < N →
    DataW.trod enc P w base spare held fuel t [v] = some x → scal P t = true → Fit P w t v := by
  intro N
  induction N with
  | zero => intro fuel t v x h; omega
  | succ N ih =>
    intro fuel t v x hN h hsc
    unfold scal at hsc
    split at hsc
    · rename_i hu; obtain ⟨b, e, -⟩ := DataW.trod_bool hu h; injection e with e; subst e; exact .bool b hu
    · rename_i k hu; obtain ⟨b, e, -, hw⟩ := DataW.trod_int hu h; injection e with e; subst e; exact .int b hu hw
    · rename_i hu; obtain ⟨b, e, -, hw⟩ := DataW.trod_string hu h; injection e with e; subst e; exact .text b hu hw
    · rename_i e hu
      rcases DataW.trod_slice hu h with ⟨h0, -⟩ | ⟨a, len, cap, elems, rest, n, hn, h0, -, -, hl, hm, hlen, hel, -⟩
      · injection h0 with h0; subst h0; exact .nil hu
      · injection h0 with h0; subst h0
        have key : ∀ i, i < len → ∃ cs', w.cells? base (a.add (i * P.cellsOf e)) (P.cellsOf e) = some cs' ∧ ∃ y, DataW.trod enc P w base spare held n e cs' = some y := by
          intro i hi
          have h1 := hel i hi
          rw [List.getElem?_eq_getElem (by omega)] at h1
          obtain ⟨cs', h2, h3⟩ := Option.bind_eq_some_iff.1 h1
          exact ⟨cs', h2, _, h3⟩
        refine .row a len cap (fun i j => (w.cell? ((a.add (i * P.cellsOf e)).add j)).getD undef) hu hl hm (fun i j hi hj => ?_) (fun i j t' hi hlf hs => ?_)
        · obtain ⟨cs', h2, y, h3⟩ := key i hi
          obtain ⟨-, hcl, hat⟩ := World.cells?_some h2
          show _ = some ((w.cell? ((a.add (i * P.cellsOf e)).add j)).getD undef)
          rw [hat j hj, List.getElem?_eq_getElem (by omega)]
          rfl
        · obtain ⟨cs', h2, y, h3⟩ := key i hi
          obtain ⟨-, hcl, hat⟩ := World.cells?_some h2
          obtain ⟨v, y', n', hn', hv, hy⟩ := trod_leaf 9 h3 hlf hs
          have hj : j < P.cellsOf e := by
            have := (List.getElem?_eq_some_iff.1 hv).1
            omega
          have := ih (by omega) hy hs
          show Fit P w t' ((w.cell? ((a.add (i * P.cellsOf e)).add j)).getD undef)
          rw [hat j hj, hv]
          exact this
    · simp at hsc

theorem Fit.since {P : Program} {w w' : World} {t : TypeId} {v : Value} (h : Fit P w t v) (hb : Below w.heap.size w w') : Fit P w' t v := by
  induction h with
  | bool b hu => exact .bool b hu
  | int n hu hw => exact .int n hu hw
  | text s hu hw => exact .text s hu hw
  | nil hu => exact .nil hu
  | row a len cap u hu hl hm hc _ ih => exact .row a len cap u hu hl hm (fun i j hi hj => (hb.cell (World.block_lt_of_cell? _ _ (hc i j hi hj))).trans (hc i j hi hj)) ih

theorem FitRow.since {P : Program} {w w' : World} {t : TypeId} {u : Nat → Value} (h : FitRow P w t u) (hb : Below w.heap.size w w') : FitRow P w' t u := fun j t' h1 h2 => (h j t' h1 h2).since hb

theorem Fit.opens {P : Program} {w : World} {t e : TypeId} {C : Nat} {v : Value} (h : Fit P w t v) (ht : P.underlying t = some (.slice e)) (hC : P.cellsOf e = C) (h0 : 0 < C) :
    ∃ (a : Option Addr) (n cap b off : Nat) (u : Nat → Nat → Value), v = .slice a n cap ∧ n ≤ cap ∧ cap ≤ maxLen ∧ (0 < n → a = some ⟨b, off, none⟩) ∧
      (∀ i j, i < n → j < C → w.cell? ⟨b, off + i * C + j, none⟩ = some (u i j)) ∧ (∀ i, i < n → FitRow P w e (u i)) := by
  subst hC
  cases h with
  | bool b hu => rw [hu] at ht; cases ht
  | int n hu hw => rw [hu] at ht; cases ht
  | text s hu hw => rw [hu] at ht; cases ht
  | nil hu => exact ⟨none, 0, 0, 0, 0, fun _ _ => undef, rfl, Nat.le_refl _, Nat.zero_le _, fun h => by simp at h, fun i j h => by simp at h, fun i h => by simp at h⟩
  | @row _ e' a len cap u hu hl hm hc hf =>
    rw [hu] at ht
    injection ht with ht
    injection ht with ht
    subst ht
    obtain ⟨b, off, spot⟩ := a
    by_cases hn : 0 < len
    · have hs : spot = none := by
        have h1 := hc 0 0 hn h0
        rw [Go.Deep.add_add] at h1
        have := World.cell?_spot h1
        simpa [Addr.add] using this
      subst hs
      refine ⟨_, len, cap, b, off, u, rfl, hl, hm, fun _ => rfl, fun i j hi hj => ?_, fun i hi j t' h1 h2 => hf i j t' hi h1 h2⟩
      have := hc i j hi hj
      rwa [add_at, add_at] at this
    · exact ⟨_, len, cap, b, off, u, rfl, hl, hm, fun h => absurd h hn, fun i j h => by omega, fun i h => by omega⟩

theorem Fit.slice {P : Program} {w : World} {t e : TypeId} {v : Value} (h : Fit P w t v) (ht : P.underlying t = some (.slice e)) : ∃ (a : Option Addr) (n cap : Nat), v = .slice a n cap ∧ n ≤ cap ∧ cap ≤ maxLen := by
  cases h with
  | bool b hu => rw [hu] at ht; cases ht
  | int n hu hw => rw [hu] at ht; cases ht
  | text s hu hw => rw [hu] at ht; cases ht
  | nil hu => exact ⟨_, _, _, rfl, Nat.le_refl _, Nat.zero_le _⟩
  | row a len cap u hu hl hm hc hf => exact ⟨_, _, _, rfl, hl, hm⟩

theorem Fit.asInt {P : Program} {w : World} {t : TypeId} {k : IntKind} {v : Value} (h : Fit P w t v) (ht : P.underlying t = some (.int k)) : ∃ n, v = .int k n ∧ (Lit.int k n).wf = true := by
  cases h with
  | bool b hu => rw [hu] at ht; cases ht
  | @int _ k' n hu hw => rw [hu] at ht; injection ht with ht; injection ht with ht; subst ht; exact ⟨n, rfl, hw⟩
  | text s hu hw => rw [hu] at ht; cases ht
  | nil hu => rw [hu] at ht; cases ht
  | row a len cap u hu hl hm hc hf => rw [hu] at ht; cases ht

theorem Fit.asText {P : Program} {w : World} {t : TypeId} {v : Value} (h : Fit P w t v) (ht : P.underlying t = some .string) : ∃ s : ByteArray, v = .string s ∧ s.size ≤ maxLen := by
  cases h with
  | bool b hu => rw [hu] at ht; cases ht
  | int n hu hw => rw [hu] at ht; cases ht
  | text s hu hw => exact ⟨s, rfl, hw⟩
  | nil hu => rw [hu] at ht; cases ht
  | row a len cap u hu hl hm hc hf => rw [hu] at ht; cases ht

theorem Fit.ints {P : Program} {w : World} {t e : TypeId} {k : IntKind} {v : Value} (h : Fit P w t v) (ht : P.underlying t = some (.slice e)) (he : P.underlying e = some (.int k)) (hC : P.cellsOf e = 1) : ∃ zs, Ints k w v zs := by
  cases h with
  | bool b hu => rw [hu] at ht; cases ht
  | int n hu hw => rw [hu] at ht; cases ht
  | text s hu hw => rw [hu] at ht; cases ht
  | nil hu => exact ⟨[], Ints.nil k w⟩
  | @row _ e' a len cap u hu hl hm hc hf =>
    rw [hu] at ht
    injection ht with ht
    injection ht with ht
    subst ht
    have hlf : leafTy P 9 e' 0 = some e' := by
      unfold leafTy
      rw [he]
      rfl
    have hsc : scal P e' = true := by unfold scal; rw [he]
    have each : ∀ i, i < len → ∃ n, u i 0 = .int k n ∧ (Lit.int k n).wf = true := fun i hi => (hf i 0 e' hi hlf hsc).asInt he
    obtain ⟨b, off, spot⟩ := a
    rw [hC] at hc
    by_cases hn : 0 < len
    · have hs : spot = none := by
        have h1 := hc 0 0 hn (by omega)
        rw [Go.Deep.add_add] at h1
        have := World.cell?_spot h1
        simpa [Addr.add] using this
      subst hs
      refine ⟨(List.range len).map fun i => intOf (u i 0), Ints.mk (b := b) (off := off) (by simp) hl hm (by simp) (fun _ => rfl) (fun i hi => ?_) (fun z hz => ?_)⟩
      · have := hc i 0 hi (by omega)
        rw [add_at, add_at] at this
        obtain ⟨n, hn, -⟩ := each i hi
        rw [hn] at this
        rw [show off + i = off + i * 1 + 0 by omega, this]
        simp [List.getD, hi, hn, intOf]
      · obtain ⟨i, hi, rfl⟩ := List.mem_map.1 hz
        obtain ⟨n, hn, hw⟩ := each i (by simpa using hi)
        rw [hn]; exact hw
    · have h00 : len = 0 := by omega
      subst h00
      exact ⟨[], Ints.mk (b := 0) (off := 0) rfl hl hm (by simp) (fun h => by simp at h) (fun i h => by simp at h) (fun z hz => by simp at hz)⟩

/-- A struct that came in by value. -/
theorem fit_struct {H : Type} {enc : TypeId × Value → H} {P : Program} {W : World} {base b0 : Nat} {r : Reach} {sp : Nat → Bool} {hd : Bool} {t : TypeId} {fs : Array Field} {v : Value} {d : DataW H} {p : List MemPlace} (ht : P.underlying t = some (.struct fs))
    (hok : Value.okWide P W r b0 t v) (h : DataW.Trod enc P W base sp hd t v d p) : ∃ cs : Array Value, v = .agg cs ∧ cs.size = P.cellsOf t ∧ FitRow P W t (fun j => cs.getD j undef) := by
  obtain ⟨cs, rfl, hsz⟩ := okWide_struct ht hok
  refine ⟨cs, rfl, hsz, fun j t' hl hs => ?_⟩
  obtain ⟨fuel, hf⟩ := h
  obtain ⟨v, y, n, -, hv, hy⟩ := trod_leaf 9 hf hl hs
  have hv' : cs[j]? = some v := by simpa [Value.cells] using hv
  have := fit_of_trod (n + 1) (Nat.lt_succ_self n) hy hs
  show Fit P W t' (cs.getD j undef)
  rw [Array.getD_eq_getD_getElem?, hv']
  exact this

/-- A slice that came in. -/
theorem fit_slice {H : Type} {enc : TypeId × Value → H} {P : Program} {W : World} {base : Nat} {sp : Nat → Bool} {hd : Bool} {t e : TypeId} {a : Option Addr} {n c : Nat} {d : DataW H} {p : List MemPlace} (ht : P.underlying t = some (.slice e))
    (h : DataW.Trod enc P W base sp hd t (.slice a n c) d p) : Fit P W t (.slice a n c) := by
  obtain ⟨fuel, hf⟩ := h
  have hs : scal P t = true := by unfold scal; rw [ht]
  exact fit_of_trod (fuel + 1) (Nat.lt_succ_self _) (by simpa [Value.cells] using hf) hs
end Go.Proofs.YtcebcncpbedkmaaGreat
namespace Go.Proofs.YtcebcncpbedkmaaGreat
open Go.ChangeShapes Go.WideShapes Go.ChangeAt Go.RowKit

theorem frame_own : ownKnob Tryz.prog.godebug = none := by kernel_rfl
theorem frame_laidOut : laidOutB Tryz.prog = true := by kernel_rfl

theorem ints_of_cells {k : IntKind} {w : World} {x : Addr} {len cap : Nat} {zs : List Int} (hl : len ≤ cap) (hm : cap ≤ maxLen) (hz : zs.length = cap) (hcell : ∀ i, i < zs.length → w.cell? (x.add i) = some (.int k (zs.getD i 0))) (hw : ∀ n ∈ zs, (Lit.int k n).wf = true) :
    Ints k w (.slice (some x) len cap) (zs.take len) := by
  have hlen : (zs.take len).length = len := by rw [List.length_take]; omega
  obtain ⟨b, off, spot⟩ := x
  by_cases h0 : 0 < len
  · have h1 := hcell 0 (by omega)
    have hs : spot = none := by
      have := World.cell?_spot h1
      simpa [Addr.add] using this
    subst hs
    refine Ints.mk (b := b) (off := off) hlen hl hm (by simp) (fun _ => rfl) (fun i hi => ?_) (fun z hz => hw z (List.mem_of_mem_take hz))
    have := hcell i (by omega)
    rw [add_at] at this
    rw [this]
    have e : (zs.take len)[i]? = zs[i]? := by rw [List.getElem?_take, if_pos hi]
    simp [List.getD, e]
  · exact Ints.mk (b := 0) (off := 0) hlen hl hm (by simp) (fun h => absurd h h0) (fun i hi => absurd hi (by omega)) (fun z hz => hw z (List.mem_of_mem_take hz))

/-- A slice of integers that came in. -/
theorem arg_ints {H : Type} {enc : TypeId × Value → H} {P : Program} {W : World} {base : Nat} {sp : Nat → Bool} {hd : Bool} {t e : TypeId} {k : IntKind} {a : Option Addr} {len cap : Nat} {d : DataW H} {p : List MemPlace}
    (ht : P.underlying t = some (.slice e)) (he : P.underlying e = some (.int k)) (hc : P.cellsOf e = 1) (h : DataW.Trod enc P W base sp hd t (.slice a len cap) d p) (hs : ∀ b, sp b = true) :
    ∃ zs, Ints k W (.slice a len cap) zs := by
  obtain ⟨fuel, hf⟩ := h
  rcases open_ints ht he hc hf with ⟨hcs, _⟩ | ⟨x, l, c, zs, hcs, _, hl, hm, hz, _, hcell, hwz⟩
  · simp [Value.cells] at hcs
    obtain ⟨rfl, rfl, rfl⟩ := hcs
    exact ⟨[], Ints.nil k W⟩
  · simp [Value.cells] at hcs
    obtain ⟨rfl, rfl, rfl⟩ := hcs
    exact ⟨zs.take len, ints_of_cells hl hm (by simpa [hs] using hz) hcell hwz⟩

end Go.Proofs.YtcebcncpbedkmaaGreat
namespace Go.Proofs.YtcebcncpbedkmaaGreat
open Go.ChangeShapes Go.WideShapes Go.ChangeAt Go.RowKit
set_option maxRecDepth 100000

theorem list_of {α : Type} {P : Nat → α → Prop} : ∀ (n : Nat), (∀ i, i < n → ∃ x, P i x) → ∃ l : List α, l.length = n ∧ ∀ i x, l[i]? = some x → P i x := by
  intro n
  induction n with
  | zero => exact fun _ => ⟨[], rfl, fun i x h => by simp at h⟩
  | succ n ih =>
    intro h
    obtain ⟨l, hl, hp⟩ := ih (fun i hi => h i (by omega))
    obtain ⟨x, hx⟩ := h n (by omega)
    refine ⟨l ++ [x], by simp [hl], fun i y hy => ?_⟩
    by_cases hi : i < l.length
    · exact hp i y (by rwa [List.getElem?_append_left hi] at hy)
    · rw [List.getElem?_append_right (by omega)] at hy
      have h0 : i - l.length = 0 := by
        rcases Nat.eq_zero_or_pos (i - l.length) with h0 | h0
        · exact h0
        · rw [List.getElem?_eq_none (by simp; omega)] at hy; cases hy
      rw [h0] at hy
      have : y = x := by simpa using hy.symm
      subst this
      obtain rfl : i = n := by omega
      exact hx

theorem Fit.none0 {P : Program} {w : World} {t : TypeId} {a : Option Addr} {n cap : Nat} (h : Fit P w t (.slice a n cap)) : a = none → cap = 0 := by
  cases h with
  | nil hu => exact fun _ => rfl
  | row a len cap u hu hl hm hc hf => exact fun h => by cases h
theorem Fit.asBool {P : Program} {w : World} {t : TypeId} {v : Value} (h : Fit P w t v) (ht : P.underlying t = some .bool) : ∃ b : Bool, v = .bool b := by
  cases h with
  | bool b hu => exact ⟨b, rfl⟩
  | int n hu hw => rw [hu] at ht; cases ht
  | text s hu hw => rw [hu] at ht; cases ht
  | nil hu => rw [hu] at ht; cases ht
  | row a len cap u hu hl hm hc hf => rw [hu] at ht; cases ht

theorem rows_of_fit {α : Type} {R : World → α → List Value → Prop} {P : Program} {w : World} {t e : TypeId} {C : Nat} {v : Value} (h : Fit P w t v) (ht : P.underlying t = some (.slice e)) (hC : P.cellsOf e = C) (h0 : 0 < C)
    (hR : ∀ u : Nat → Value, FitRow P w e u → ∃ x, R w x ((List.range C).map u)) : ∃ l, RowsOf R C w v l := by
  obtain ⟨a, n, cap, b, off, u, rfl, h1, h2, h3, h4, h5⟩ := h.opens ht hC h0
  obtain ⟨l, hl, hp⟩ := list_of (P := fun i x => R w x ((List.range C).map (u i))) n (fun i hi => hR _ (h5 i hi))
  subst hl
  refine ⟨l, a, cap, b, off, rfl, h1, h2, h.none0, h3, fun i x hi => ⟨(List.range C).map (u i), by simp, hp i x hi, fun j z hj => ?_⟩⟩
  have hi' := (List.getElem?_eq_some_iff.1 hi).1
  have hj' : j < C := by
    have := (List.getElem?_eq_some_iff.1 hj).1
    simpa using this
  have := h4 i j hi' hj'
  rw [this]
  rw [List.getElem?_map, List.getElem?_range hj'] at hj
  exact hj
end Go.Proofs.YtcebcncpbedkmaaGreat
namespace Go.Proofs.YtcebcncpbedkmaaGreat
open Go.ChangeShapes Go.WideShapes Go.ChangeAt Go.RowKit
set_option maxRecDepth 100000

abbrev Sh.val (s : Sh) : Value := .agg #[.int .i64 s.least, .int .i64 s.step, .bool s.pad, .int .i64 s.bad, .int .i64 s.odd]
def Sh.wf (s : Sh) : Prop := (Lit.int .i64 s.least).wf = true ∧ (Lit.int .i64 s.step).wf = true ∧ (Lit.int .i64 s.bad).wf = true ∧ (Lit.int .i64 s.odd).wf = true
def ShOk (_ : World) (v : Value) (s : Sh) : Prop := v = s.val ∧ s.wf

theorem agg5 {cs : Array Value} (h : cs.size = 5) : cs = #[cs.getD 0 undef, cs.getD 1 undef, cs.getD 2 undef, cs.getD 3 undef, cs.getD 4 undef] := by
  apply Array.ext (by simp [h])
  intro i h1 h2
  have hi : i < 5 := by omega
  match i, hi with
  | 0, _ => simp [Array.getD, h]
  | 1, _ => simp [Array.getD, h]
  | 2, _ => simp [Array.getD, h]
  | 3, _ => simp [Array.getD, h]
  | 4, _ => simp [Array.getD, h]

theorem arg_shape {H : Type} {enc : TypeId × Value → H} {W : World} {base b0 : Nat} {r : Reach} {sp : Nat → Bool} {hd : Bool} {v : Value} {d : DataW H} {p : List MemPlace}
    (hok : Value.okWide Tryz.prog W r b0 111 v) (h : DataW.Trod enc Tryz.prog W base sp hd 111 v d p) : ∃ s, ShOk W v s := by
  obtain ⟨cs, rfl, hsz, hf⟩ := fit_struct Tryz.underlying111 hok h
  have hsz : cs.size = 5 := hsz.trans (by kernel_rfl)
  obtain ⟨least, e0, w0⟩ := (hf 0 3 (by kernel_rfl) (by kernel_rfl)).asInt Tryz.underlying3
  obtain ⟨step, e1, w1⟩ := (hf 1 3 (by kernel_rfl) (by kernel_rfl)).asInt Tryz.underlying3
  obtain ⟨pad, e2⟩ := (hf 2 4 (by kernel_rfl) (by kernel_rfl)).asBool Tryz.underlying4
  obtain ⟨bad, e3, w3⟩ := (hf 3 54 (by kernel_rfl) (by kernel_rfl)).asInt Tryz.underlying54
  obtain ⟨odd, e4, w4⟩ := (hf 4 54 (by kernel_rfl) (by kernel_rfl)).asInt Tryz.underlying54
  refine ⟨⟨least, step, pad, bad, odd⟩, ?_, w0, w1, w3, w4⟩
  have e := agg5 hsz
  rw [show cs.getD 0 undef = _ from e0, show cs.getD 1 undef = _ from e1, show cs.getD 2 undef = _ from e2, show cs.getD 3 undef = _ from e3, show cs.getD 4 undef = _ from e4] at e
  rw [e]

theorem arg_items {H : Type} {enc : TypeId × Value → H} {W : World} {base b0 : Nat} {r : Reach} {sp : Nat → Bool} {hd : Bool} {v : Value} {d : DataW H} {p : List MemPlace}
    (hok : Value.okWide Tryz.prog W r b0 106 v) (h : DataW.Trod enc Tryz.prog W base sp hd 106 v d p) : ∃ l, RowsOf ItemR 2 W v l := by
  obtain ⟨a, n, c, rfl⟩ := okWide_slice Tryz.underlying106 hok
  refine rows_of_fit (fit_slice Tryz.underlying106 h) Tryz.underlying106 (by kernel_rfl) (by decide) (fun u f => ?_)
  obtain ⟨k, ek, wk⟩ := (f 0 3 (by kernel_rfl) (by kernel_rfl)).asInt Tryz.underlying3
  obtain ⟨bs, hb⟩ := (f 1 24 (by kernel_rfl) (by kernel_rfl)).ints Tryz.underlying24 Tryz.underlying5 (by kernel_rfl)
  exact ⟨(k, bs), u 1, by rw [show (List.range 2).map u = [u 0, u 1] from rfl, ek], hb, wk⟩
end Go.Proofs.YtcebcncpbedkmaaGreat
