/- A range over a function whose function keeps its state in a box of its own: the statement's law, for a body that either goes on or returns. Conditions: those of the law. -/
import Derived.Test.YtcebcncpbedkmaaGreatZBase
import Derived.RangeFuncWrites
namespace Go.Proofs.YtcebcncpbedkmaaGreat
open Go Go.RowKit

variable {F : Fence} {n : Nat} {P : Program}

/-- The function's contract, said of its rounds: V0: what it hands to a round that goes on; V1: to one that leaves. -/
def BoxSeq {α β : Type} (F : Fence) (n : Nat) (P : Program) (gf : Nat) (lb : Array Value) (Bb : Nat) (V0 : List α → α → Array Value → World → World → Prop) (V1 : β → Array Value → Prop) (Kp : World → World → Prop) (S : List α → Prop) (Sx : β → Prop) (w : World) : Prop :=
  ∀ (l : Nat) (J : List α → World → Prop) (Jx : β → World → Prop) (W : World), Below w.heap.size w W →
    (∀ pre A B, J pre A → A.grownBy B (some Bb) → J pre B) →
    (∀ pre x args W0 W1, J pre W0 → Below W0.heap.size W0 W1 → V0 pre x args W0 W1 → YieldAt F (n - 1) P l args W1 fun e W' => e = .returned (.bool true) ∧ J (pre ++ [x]) W' ∧ Kp W1 W') →
    (∀ pre er args W0 W1, J pre W0 → Below W0.heap.size W0 W1 → V1 er args → YieldAt F (n - 1) P l args W1 fun e W' => e = .returned (.bool false) ∧ Jx er W') →
    J [] W → CallsIn F n P gf (#[.func (.yield l) #[] #[]] ++ lb) W fun e W' => (∃ u, e = .returned u) ∧ ((∃ xs, S xs ∧ J xs W') ∨ (∃ er, Sx er ∧ Jx er W'))

theorem wpIn_range_box {α β : Type} {g : Operand} {ps : Array Tmp} {assign body : Code} {Q : Exit → Act → World → Prop} {a : Act} {w : World}
    (hro : F.round = none) (h1 : 1 ≤ n) {gf : Nat} {lb : Array Value} (hg : a.eval g = .func (.func gf) #[] lb) (hFg : F.fn gf) (eg : ∀ args w, (callFunc gf args).run P w = .ok (.enter gf args) w)
    {Bb : Nat} (hBb : Bb < w.heap.size) {V0 : List α → α → Array Value → World → World → Prop} {V1 : β → Array Value → Prop} {Kp : World → World → Prop} {S : List α → Prop} {Sx : β → Prop}
    (hseq : BoxSeq F (n - 1) P gf lb Bb V0 V1 Kp S Sx w)
    (hKt : ∀ A B C, Kp A B → Kp B C → Kp A C) (hKa : ∀ (W : World) (o : Obj), w.heap.size ≤ W.heap.size → Kp W (W.alloc o)) (hKb : ∀ (W : World) (o : Obj), w.heap.size + 1 < W.heap.size → Kp W (W.putObj (w.heap.size + 1) o))
    (I : List α → World → Prop) (Ix : β → World → Prop)
    (hI : ∀ pre A B r, I pre A → A.grownBy B (some r) → (r = Bb ∨ r = w.heap.size + 1) → I pre B) (hIb : ∀ pre A B, I pre A → Below A.heap.size A B → I pre B) (hIx : ∀ er A B, Ix er A → A.grownBy B (some (w.heap.size + 1)) → Ix er B)
    (h0 : I [] w)
    (hp0 : ∀ pre x args W0 W1, V0 pre x args W0 W1 → args.size = ps.size) (hp1 : ∀ er args, V1 er args → args.size = ps.size)
    (a₁ : Array Value → Nat → Act) (ob : Array Value → Obj)
    (hassign : ∀ (args : Array Value) (W : World) (K : Act → World → Prop), ((∃ pre x W0, V0 pre x args W0 W) ∨ ∃ er, V1 er args) → K (a₁ args W.heap.size) (W.alloc (ob args)) →
      assign.wpIn (F.inRound (w.heap.size + 1)) (n - 1 - 1) P (Exit.then K (fun _ _ _ => False)) { tmps := (ps.zip args).foldl (fun t (p, v) => t.setIfInBounds p v) a.tmps, defers := [] } W)
    (hbody0 : ∀ pre x args W0 W1 W3, I pre W0 → Below W0.heap.size W0 W1 → V0 pre x args W0 W1 → (W1.alloc (ob args)).grownBy W3 (some (w.heap.size + 1)) → w.heap.size + 2 ≤ W0.heap.size →
      body.wpIn (F.inRound (w.heap.size + 1)) (n - 1 - 1) P (fun e _ W4 => e = .normal ∧ KeepsFrom w.heap.size W3 W4 ∧ Kp W3 W4 ∧ I (pre ++ [x]) W4) (a₁ args W1.heap.size) W3)
    (hbody1 : ∀ pre er args W0 W1 W3, I pre W0 → Below W0.heap.size W0 W1 → V1 er args → (W1.alloc (ob args)).grownBy W3 (some (w.heap.size + 1)) → w.heap.size + 2 ≤ W0.heap.size →
      body.wpIn (F.inRound (w.heap.size + 1)) (n - 1 - 1) P (fun e _ W4 => e = .ret ∧ KeepsFrom w.heap.size W3 W4 ∧ Ix er W4) (a₁ args W1.heap.size) W3)
    (hdone : ∀ (xs : List α) (W : World), S xs → I xs W → W.heap[w.heap.size]? = some (.deferred (some [])) → Q .normal { a with defers := { target := .collected w.heap.size, args := #[] } :: a.defers } W)
    (hstop : ∀ (er : β) (W : World), Sx er → Ix er W → W.heap[w.heap.size]? = some (.deferred (some [])) → Code.ret.wpIn F n P Q { a with defers := { target := .collected w.heap.size, args := #[] } :: a.defers } W) :
    (Code.rangeFunc g ps assign body).wpIn F n P Q a w := by
  refine wpIn_rangeFunc ?_
  intro fn hfn
  rw [hro]
  obtain ⟨rec, hrec⟩ : ∃ rec : LoopState → Option Code → Loop, rec = fun st pe => { state := st, pending := pe, fn, tmps := a.tmps, params := ps, assign, body, defers := w.heap.size } := ⟨_, rfl⟩
  obtain ⟨W1, hW1⟩ : ∃ W1, (w.alloc (.deferred (some []))).alloc (.loop (rec .ready none)) = W1 := ⟨_, rfl⟩
  have hl1 : W1.heap[w.heap.size + 1]? = some (.loop (rec .ready none)) := by
    rw [← hW1]; have := heap_alloc_new (w.alloc (.deferred (some []))) (.loop (rec .ready none)); rwa [World.size_alloc] at this
  have hd1 : W1.heap[w.heap.size]? = some (.deferred (some [])) := by
    rw [← hW1]; exact (heap_alloc_old _ _ (by simp)).trans (heap_alloc_new w _)
  have hb1 : Below w.heap.size w W1 := by rw [← hW1]; exact ((Below.refl _ w).alloc (Nat.le_refl _) _).alloc (by simp) _
  refine ⟨w.heap.size + 1, [{ target := .collected w.heap.size, args := #[] }], W1, { target := .fn (.func gf) lb, args := #[.func (.yield (w.heap.size + 1)) #[] #[]] }, W1, gf,
    #[.func (.yield (w.heap.size + 1)) #[] #[]] ++ lb, W1, ?_, ?_, ?_, ?_, fun _ => h1, ?_⟩
  · rw [← hW1, hrec]; exact run_enterLoop_outer _ _ _ _ _
  · simp only [resolve, hg]
    simp [go_sem]
  · intro f' hf'; simp [Target.leads] at hf'; subst hf'; exact hFg
  · simp [invoke, go_sem, eg]
  -- a round: yield asks for it, the record turns busy, then ready or done
  have round : ∀ (args : Array Value) (Wa : World) (R : Ending → World → Prop) (j : Option Code) (T : World → Prop), args.size = ps.size → ((∃ pre x W0, V0 pre x args W0 Wa) ∨ ∃ er, V1 er args) →
      Wa.heap[w.heap.size + 1]? = some (.loop (rec .ready none)) →
      (∀ W3, (Wa.alloc (ob args)).grownBy W3 (some (w.heap.size + 1)) → W3.heap[w.heap.size + 1]? = some (.loop { rec .ready none with state := .busy }) → W3 = (Wa.alloc (ob args)).putObj (w.heap.size + 1) (.loop { rec .ready none with state := .busy }) →
        body.wpIn (F.inRound (w.heap.size + 1)) (n - 1 - 1) P (fun e _ W4 => (e = (match j with | none => Exit.normal | some _ => Exit.ret)) ∧ KeepsFrom w.heap.size W3 W4 ∧ T W4) (a₁ args Wa.heap.size) W3) →
      (∀ W4, T W4 → W4.heap[w.heap.size + 1]? = some (.loop { rec .ready none with state := .busy }) → R (.returned (.bool j.isNone)) (W4.putObj (w.heap.size + 1) (.loop (rec (if j.isNone then .ready else .done) j)))) →
      (j = none ∨ j = some .ret) → YieldAt F (n - 1 - 1) P (w.heap.size + 1) args Wa R := by
    intro args Wa R j T hsz hV hl hbd hfin hj
    have hlt : w.heap.size + 1 < Wa.heap.size := (Array.getElem?_eq_some_iff.1 hl).1
    have hy := run_yield (P := P) (args := args) hl (by rw [hrec]; exact hsz)
    rw [hrec] at hy
    have hl2 : (Wa.alloc (ob args)).heap[w.heap.size + 1]? = some (.loop (rec .ready none)) := (heap_alloc_old _ _ hlt).trans hl
    refine ⟨fn, _, assign, body, hy, roundIn_of_wpIn hfn (hassign args Wa _ hV ⟨_, run_beginRound hl2 (by rw [hrec]), ?_⟩)⟩
    have hl3 : ((Wa.alloc (ob args)).putObj (w.heap.size + 1) (.loop { rec .ready none with state := .busy })).heap[w.heap.size + 1]? = some (.loop { rec .ready none with state := .busy }) := World.putObj_heap_same (Array.getElem?_eq_some_iff.1 hl2).1
    refine wpIn_mono (hbd _ (grownBy_putObj' _ _ _) hl3 rfl) ?_
    rintro e a4 W4 ⟨he, hk, ht⟩
    have hl4 := hk.same _ _ (by omega) hl3 rfl
    have hend := run_endRound (P := P) j hl4
    rw [hrec] at hend
    have hfin' := hfin W4 ht hl4
    rw [hrec] at hfin'
    rcases hj with rfl | rfl
    · subst he
      exact ⟨_, _, hend, hfin'⟩
    · subst he
      exact ⟨_, _, hend, hfin'⟩
  refine (hseq (w.heap.size + 1) (fun pre W => I pre W ∧ W.heap[w.heap.size + 1]? = some (.loop (rec .ready none)) ∧ W.heap[w.heap.size]? = some (.deferred (some [])))
    (fun er W => Ix er W ∧ W.heap[w.heap.size + 1]? = some (.loop (rec .done (some .ret))) ∧ W.heap[w.heap.size]? = some (.deferred (some []))) W1 hb1 ?_ ?_ ?_ ⟨hIb _ _ _ h0 hb1, hl1, hd1⟩).mono ?_
  · rintro pre A B ⟨h2, h3, h4⟩ hgr
    exact ⟨hI _ _ _ _ h2 hgr (.inl rfl), (hgr.block _ (Array.getElem?_eq_some_iff.1 h3).1 (fun e => by injection e with e; omega)).trans h3, (hgr.block _ (Array.getElem?_eq_some_iff.1 h4).1 (fun e => by injection e with e; omega)).trans h4⟩
  · rintro pre x args W0 Wa ⟨h2, h3, h4⟩ hbl hV
    have hla := (hbl.block _ (Array.getElem?_eq_some_iff.1 h3).1).trans h3
    have hda := (hbl.block _ (Array.getElem?_eq_some_iff.1 h4).1).trans h4
    have hlt : w.heap.size + 1 < Wa.heap.size := (Array.getElem?_eq_some_iff.1 hla).1
    have hl0 : w.heap.size + 1 < W0.heap.size := (Array.getElem?_eq_some_iff.1 h3).1
    refine round args Wa _ none (fun W4 => Kp Wa W4 ∧ I (pre ++ [x]) W4 ∧ W4.heap[w.heap.size]? = some (.deferred (some []))) (hp0 _ _ _ _ _ hV) (.inl ⟨_, _, _, hV⟩) hla (fun W3 hg3 hl3 hW3 => ?_) (fun W4 hT hl4 => ?_) (.inl rfl)
    · refine wpIn_mono (hbody0 pre x args W0 Wa W3 h2 hbl hV hg3 (by omega)) ?_
      rintro e a4 W4 ⟨rfl, hk, hkp, hi⟩
      have hd3 : W3.heap[w.heap.size]? = some (.deferred (some [])) := (hg3.block _ (by simp; omega) (fun e => by injection e with e; omega)).trans ((heap_alloc_old _ _ (by omega)).trans hda)
      exact ⟨rfl, hk, hKt _ _ _ (hKt _ _ _ (hKa Wa (ob args) (by omega)) (by rw [hW3]; exact hKb _ _ (by simp; omega))) hkp, hi, hk.same _ _ (Nat.le_refl _) hd3 rfl⟩
    · have hlt4 := (Array.getElem?_eq_some_iff.1 hl4).1
      exact ⟨rfl, ⟨hI _ _ _ _ hT.2.1 (grownBy_putObj' _ _ _) (.inr rfl), World.putObj_heap_same hlt4, (World.putObj_heap_other (by omega)).trans hT.2.2⟩, hKt _ _ _ hT.1 (hKb _ _ hlt4)⟩
  · rintro pre er args W0 Wa ⟨h2, h3, h4⟩ hbl hV
    have hla := (hbl.block _ (Array.getElem?_eq_some_iff.1 h3).1).trans h3
    have hda := (hbl.block _ (Array.getElem?_eq_some_iff.1 h4).1).trans h4
    have hlt : w.heap.size + 1 < Wa.heap.size := (Array.getElem?_eq_some_iff.1 hla).1
    have hl0 : w.heap.size + 1 < W0.heap.size := (Array.getElem?_eq_some_iff.1 h3).1
    refine round args Wa _ (some .ret) (fun W4 => Ix er W4 ∧ W4.heap[w.heap.size]? = some (.deferred (some []))) (hp1 _ _ hV) (.inr ⟨_, hV⟩) hla (fun W3 hg3 hl3 hW3 => ?_) (fun W4 hT hl4 => ?_) (.inr rfl)
    · refine wpIn_mono (hbody1 pre er args W0 Wa W3 h2 hbl hV hg3 (by omega)) ?_
      rintro e a4 W4 ⟨rfl, hk, hi⟩
      have hd3 : W3.heap[w.heap.size]? = some (.deferred (some [])) := (hg3.block _ (by simp; omega) (fun e => by injection e with e; omega)).trans ((heap_alloc_old _ _ (by omega)).trans hda)
      exact ⟨rfl, hk, hi, hk.same _ _ (Nat.le_refl _) hd3 rfl⟩
    · have hlt4 := (Array.getElem?_eq_some_iff.1 hl4).1
      exact ⟨rfl, hIx _ _ _ hT.1 (grownBy_putObj' _ _ _), World.putObj_heap_same hlt4, (World.putObj_heap_other (by omega)).trans hT.2⟩
  · rintro e W2 ⟨⟨u, rfl⟩, (⟨xs, hS, hi, hl, hd⟩ | ⟨er, hS, hi, hl, hd⟩)⟩
    · exact ⟨none, _, by have := run_endLoop (P := P) hl (by rw [hrec]; simp); rw [hrec] at this; exact this, hdone xs _ hS (hI _ _ _ _ hi (grownBy_putObj' _ _ _) (.inr rfl)) ((World.putObj_heap_other (by omega)).trans hd)⟩
    · exact ⟨some .ret, _, by have := run_endLoop (P := P) hl (by rw [hrec]; simp); rw [hrec] at this; exact this, hstop er _ hS (hIx _ _ _ hi (grownBy_putObj' _ _ _)) ((World.putObj_heap_other (by omega)).trans hd)⟩
end Go.Proofs.YtcebcncpbedkmaaGreat
