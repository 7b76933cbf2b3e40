/- Queues, encoded and decoded, in plain Lean: each undoes the other; a byte less is an error. Conditions: none beyond each lemma's own. -/
import Derived.Test.YtoobcgakainelaaZQueU
import Derived.Test.YtoobcgakainelaaZQueJ
namespace Go.Proofs.Ytoobcgakainelaa

theorem putS_parts {w xs b : List Int} (h : putS w xs = some b) : RightS w = true ∧ cntL w = xs.length ∧ putL w xs = some b := by
  unfold putS at h
  split at h
  · rename_i hc
    simp only [Bool.and_eq_true, decide_eq_true_eq] at hc
    exact ⟨hc.1, hc.2, h⟩
  · cases h
theorem getS_put {w xs b more : List Int} (hx : U64 xs) (h : putS w xs = some b) : getS w (b ++ more) = (xs, 0) := by
  obtain ⟨h1, h2, h3⟩ := putS_parts h
  have := get_put more (right_all h1) hx h2 h3
  unfold getS
  rw [if_pos h1, this]
theorem putS_get {w b xs : List Int} (hb : U8 b) (h : getS w b = (xs, 0)) : sizeL w ≤ b.length ∧ putS w xs = some (b.take (sizeL w)) ∧ U64 xs := by
  unfold getS at h
  split at h
  · rename_i hr
    cases hg : getL w b with
    | error e => rw [hg] at h; injection h with _ h; have := getL_err hg; rcases this with rfl | rfl <;> cases h
    | ok l =>
      rw [hg] at h
      injection h with h _
      subst h
      obtain ⟨h1, h2, h3, h4⟩ := put_get (right_all hr) hb hg
      refine ⟨h1, ?_, h4⟩
      unfold putS
      rw [hr, decide_eq_true h2, h3]
      rfl
  · injection h with _ h; cases h

/-! ### one property -/
theorem prop_item {p : Prp} {b : List Int} (hn : 0 ≤ p.2.1 ∧ p.2.1 < 18446744073709551616) (h : bodyQ p = some b) : propQ (p.1, b) = (p, 0) := by
  obtain ⟨t, n, ds⟩ := p
  simp only at hn ⊢
  unfold bodyQ at h
  simp only at h
  cases hr : rowsQ t with
  | none => rw [hr] at h; cases h
  | some w =>
    rw [hr] at h
    simp only at h
    cases hp : putS w [n] with
    | none => rw [hp] at h; cases h
    | some c =>
      rw [hp] at h
      simp only at h
      split at h
      · cases h
      · rename_i hc
        injection h with h
        subst h
        have hcl : c.length = 12 := by rw [putL_len (putS_parts hp).2.2, (rowsQ_some hr).2.1]
        have hg := getS_put (more := ds) (fun z hz => by simp at hz; subst hz; exact hn) hp
        unfold propQ
        simp only
        rw [hr]
        simp only
        rw [hg, if_neg (by rw [List.length_append, hcl]; omega), if_neg (by simp), if_neg (by simp)]
        simp [← hcl]
theorem item_prop {t : Int} {b : List Int} {p : Prp} (hu : U8 b) (h : propQ (t, b) = (p, 0)) : p.1 = t ∧ bodyQ p = some b := by
  unfold propQ at h
  simp only at h
  cases hr : rowsQ t with
  | none => rw [hr] at h; cases h
  | some w =>
    rw [hr] at h
    simp only at h
    split at h
    · cases h
    · rename_i hc
      split at h
      · cases h
      · split at h
        · cases h
        · rename_i h1 h2
          injection h with h _
          subst h
          refine ⟨rfl, ?_⟩
          have h0 : (getS w b).2 = 0 := by
            rcases getS_cases (ws := w) hu with ⟨h, -⟩ | ⟨h, -⟩ | ⟨h, -⟩
            · exact h
            · exact absurd h h1
            · exact absurd h h2
          obtain ⟨l, hl⟩ : ∃ l, getS w b = (l, 0) := ⟨(getS w b).1, by rw [← h0]⟩
          obtain ⟨g1, g2, g3⟩ := putS_get hu hl
          have g4 := (putS_parts g2).2.1
          rw [(rowsQ_some hr).2.2.2.1] at g4
          rw [(rowsQ_some hr).2.1] at g1 g2
          obtain ⟨x, rfl⟩ : ∃ x, l = [x] := by
            cases l with
            | nil => cases g4
            | cons x l =>
              cases l with
              | nil => exact ⟨x, rfl⟩
              | cons y l => simp at g4
          rw [hl]
          unfold bodyQ
          simp only
          rw [hr]
          simp only [List.getD_cons_zero]
          rw [g2]
          simp only
          rw [if_neg (by rw [List.length_drop]; omega), List.take_append_drop]
theorem goodP_item {p : Prp} (h : goodP p = true) : ∃ b, bodyQ p = some b ∧ itemQ p = (p.1, b) ∧ shQ.good (p.1, b) = true := by
  unfold goodP at h
  simp only [Bool.and_eq_true] at h
  obtain ⟨b, hb⟩ := Option.isSome_iff_exists.1 h.1
  have : itemQ p = (p.1, b) := by unfold itemQ; rw [hb]
  exact ⟨b, hb, this, by rw [← this]; exact h.2⟩

/-! ### properties -/
def okNums (ps : List Prp) : Prop := ∀ p ∈ ps, 0 ≤ p.2.1 ∧ p.2.1 < 18446744073709551616
theorem propsA_enc : ∀ (ps : List Prp) (f : Nat) (acc : List Prp), ps.all goodP = true → okNums ps → (propsB ps).length ≤ f → propsA f acc (propsB ps) = (acc ++ ps, 0) := by
  intro ps
  induction ps with
  | nil =>
    intro f acc _ _ _
    cases f with
    | zero => simp [propsA]
    | succ f => simp [propsA, propsB, Sh.all]
  | cons p ps ih =>
    intro f acc hg hn hf
    simp only [List.all_cons, Bool.and_eq_true] at hg
    obtain ⟨b, hb, hi, hgd⟩ := goodP_item hg.1
    have he : propsB (p :: ps) = shQ.thing (p.1, b) ++ propsB ps := by simp [propsB, Sh.all, hi]
    have ho := Sh.one_thing (s := shQ) shQ_may hgd (propsB ps)
    have hl : 4 ≤ (shQ.thing (p.1, b)).length := by rw [Sh.thing_len]; omega
    rw [he] at hf ⊢
    rw [List.length_append] at hf
    cases f with
    | zero => omega
    | succ f =>
      rw [propsA, if_neg (by rw [List.length_append]; omega), ho]
      simp only
      rw [if_neg (by decide), prop_item (hn p (by simp)) hb, if_neg (by simp), List.drop_left, ih f _ hg.2 (fun q hq => hn q (by simp [hq])) (by omega)]
      simp
theorem propsQ_enc {ps : List Prp} (hg : ps.all goodP = true) (hn : okNums ps) : propsQ (propsB ps) = (ps, 0) := propsA_enc ps _ [] hg hn (Nat.le_refl _)
theorem propsA_dec : ∀ (f : Nat) (bs : List Int) (acc m : List Prp), U8 bs → bs.length ≤ f → propsA f acc bs = (m, 0) → ∃ k, m = acc ++ k ∧ k.all goodP = true ∧ propsB k = bs := by
  intro f
  induction f with
  | zero =>
    intro bs acc m hu hf h
    have : bs = [] := List.eq_nil_of_length_eq_zero (by omega)
    subst this
    rw [propsA] at h
    injection h with h _
    exact ⟨[], by simp [h], rfl, rfl⟩
  | succ f ih =>
    intro bs acc m hu hf h
    rw [propsA] at h
    by_cases h0 : bs.length = 0
    · rw [if_pos h0] at h
      have : bs = [] := List.eq_nil_of_length_eq_zero h0
      subst this
      injection h with h _
      exact ⟨[], by simp [h], rfl, rfl⟩
    · rw [if_neg h0] at h
      by_cases h1 : (shQ.one bs).2.2 ≠ 0
      · rw [if_pos h1] at h; injection h with _ h; exact absurd h h1
      · rw [if_neg h1] at h
        have h1' : (shQ.one bs).2.2 = 0 := by simpa using h1
        by_cases h2 : (propQ (shQ.one bs).1).2 ≠ 0
        · rw [if_pos h2] at h; injection h with _ h; exact absurd h h2
        · rw [if_neg h2] at h
          have h2' : (propQ (shQ.one bs).1).2 = 0 := by simpa using h2
          have hok := shQ.one_ok h1'
          have hth := Sh.thing_one hu h1'
          obtain ⟨k, hk1, hk2, hk3⟩ := ih _ _ _ (fun z hz => hu z (List.mem_of_mem_drop hz)) (by rw [List.length_drop]; omega) h
          have hpq : propQ ((shQ.one bs).1.1, (shQ.one bs).1.2) = ((propQ (shQ.one bs).1).1, 0) := by rw [← h2']
          obtain ⟨g1, g2⟩ := item_prop (one_u8 (s := shQ) hu).1 hpq
          have hit : itemQ (propQ (shQ.one bs).1).1 = (shQ.one bs).1 := by unfold itemQ; rw [g2, g1]
          refine ⟨(propQ (shQ.one bs).1).1 :: k, by rw [hk1]; simp, ?_, ?_⟩
          · rw [List.all_cons, hk2, Bool.and_true]
            unfold goodP
            rw [g2, hit, hth.1]
            rfl
          · have : propsB ((propQ (shQ.one bs).1).1 :: k) = shQ.thing (itemQ (propQ (shQ.one bs).1).1) ++ propsB k := by simp [propsB, Sh.all]
            rw [this, hit, hth.2, hk3, List.take_append_drop]

/-! ### queues -/
def okQue (q : Que) : Prop := (0 ≤ q.1 ∧ q.1 < 18446744073709551616) ∧ (0 ≤ q.2.1 ∧ q.2.1 < 18446744073709551616) ∧ okNums q.2.2
theorem propsB_mod {ps : List Prp} (h : ps.all goodP = true) : (propsB ps).length % 8 = 0 := by
  induction ps with
  | nil => rfl
  | cons p ps ih =>
    simp only [List.all_cons, Bool.and_eq_true] at h
    obtain ⟨b, hb, hi, hgd⟩ := goodP_item h.1
    have he : propsB (p :: ps) = shQ.thing (p.1, b) ++ propsB ps := by simp [propsB, Sh.all, hi]
    have := ih h.2
    have hl := Sh.thing_len shQ (p.1, b)
    have hz : shQ.zeros (4 + b.length) = 0 := rfl
    simp only [Sh.good, Sh.fits, Bool.and_eq_true] at hgd
    have hm : (4 + b.length) % 8 = 0 := by
      have := hgd.2.2
      simp only [shQ, Bool.false_or] at this
      exact of_decide_eq_true this
    rw [he, List.length_append]
    simp only at hl
    omega
theorem one_que {q : Que} (more : List Int) (hg : goodQ q = true) (hq : okQue q) : oneQ (queB q ++ more) = (q, 0) ∧ sizeQ (queB q ++ more) = (queB q).length ∧ 16 ≤ (queB q).length := by
  obtain ⟨n, m, ps⟩ := q
  obtain ⟨h1, h2, h3⟩ := hq
  simp only at h1 h2 h3
  obtain ⟨c, hA, hC, hp, hcl, hcu, hqb⟩ := goodQ_some hg
  have hlen : (queB (n, m, ps)).length = 16 + (propsB ps).length := by rw [hqb, List.length_append, hcl]
  have hm := propsB_mod hA
  have hgs : getS hdrQ (queB (n, m, ps) ++ more) = ([n, m, 16 + ((propsB ps).length : Int)], 0) := by
    rw [hqb, List.append_assoc]
    refine getS_put (fun z hz => ?_) hp
    simp at hz
    rcases hz with rfl | rfl | rfl
    · exact h1
    · exact h2
    · omega
  have hsz : sizeQ (queB (n, m, ps) ++ more) = 16 + (propsB ps).length := by
    unfold sizeQ
    rw [hgs]
    show (16 + ((propsB ps).length : Int)).toNat = _
    omega
  refine ⟨?_, by rw [hsz, hlen], by omega⟩
  rw [oneQ_good (a := n) (b := m) (n := 16 + ((propsB ps).length : Int)) (by rw [List.length_append]; omega) hgs (by omega) (by omega) (by rw [hsz, List.length_append]; omega)]
  have ht : ((queB (n, m, ps) ++ more).take (sizeQ (queB (n, m, ps) ++ more))).drop 16 = propsB ps := by
    rw [hsz, ← hlen, List.take_left, hqb, ← hcl, List.drop_left]
  rw [ht, propsQ_enc hA h3]
  rfl
theorem decA_enc : ∀ (l : List Que) (f : Nat) (acc : List Que), l.all goodQ = true → (∀ q ∈ l, okQue q) → (quesB l).length ≤ f → decA f acc (quesB l) = (acc ++ l, 0) := by
  intro l
  induction l with
  | nil =>
    intro f acc _ _ _
    cases f with
    | zero => simp [decA]
    | succ f => simp [decA, quesB]
  | cons q l ih =>
    intro f acc hg hn hf
    simp only [List.all_cons, Bool.and_eq_true] at hg
    have he : quesB (q :: l) = queB q ++ quesB l := by simp [quesB]
    obtain ⟨h1, h2, h3⟩ := one_que (quesB l) hg.1 (hn q (by simp))
    rw [he] at hf ⊢
    rw [List.length_append] at hf
    cases f with
    | zero => omega
    | succ f =>
      rw [decA, if_neg (by rw [List.length_append]; omega), h1, if_neg (by simp), h2, List.drop_left, ih f _ hg.2 (fun q hq => hn q (by simp [hq])) (by omega)]
      simp
/-- What was encoded is decoded. -/
theorem dec_enc {l : List Que} (hn : ∀ q ∈ l, okQue q) (h : (encQ l).2 = 0) : decQ (encQ l).1 = (l, 0) := by
  unfold encQ at h ⊢
  split at h
  · rename_i hc
    rw [if_pos hc]
    show decQ (quesB l) = _
    unfold decQ
    rw [decA_enc l _ [] hc.1 hn (Nat.le_refl _), if_neg (by simp), if_neg (by omega)]
    rfl
  · cases h
theorem decA_cut : ∀ (l : List Que) (f : Nat) (acc : List Que), l ≠ [] → l.all goodQ = true → (∀ q ∈ l, okQue q) → (quesB l).length - 1 ≤ f → (decA f acc ((quesB l).take ((quesB l).length - 1))).2 ≠ 0 := by
  intro l
  induction l with
  | nil => intro f acc h; exact absurd rfl h
  | cons q l ih =>
    intro f acc _ hg hn hf
    simp only [List.all_cons, Bool.and_eq_true] at hg
    have he : quesB (q :: l) = queB q ++ quesB l := by simp [quesB]
    obtain ⟨h1, h2, h3⟩ := one_que (quesB l) hg.1 (hn q (by simp))
    rw [he] at hf ⊢
    rw [List.length_append] at hf ⊢
    cases f with
    | zero => omega
    | succ f =>
      by_cases hl : l = []
      · subst hl
        have hz : quesB [] = [] := rfl
        rw [hz] at h1 h2 ⊢
        rw [List.append_nil] at h1 h2 ⊢
        simp only [List.length_nil, Nat.add_zero]
        have hlt : ((queB q).take ((queB q).length - 1)).length = (queB q).length - 1 := by rw [List.length_take]; omega
        rw [decA, if_neg (by rw [hlt]; omega)]
        have hbad : (oneQ ((queB q).take ((queB q).length - 1))).2 ≠ 0 := by
          by_cases h16 : (queB q).length - 1 < 16
          · rw [oneQ_short (by rw [hlt]; exact h16)]; decide
          · have hs : sizeQ ((queB q).take ((queB q).length - 1)) = (queB q).length := by
              have e1 : getS hdrQ ((queB q).take ((queB q).length - 1)) = getS hdrQ (queB q) := by
                rw [← hdr_take (r := queB q) h3, ← hdr_take (r := (queB q).take ((queB q).length - 1)) (by rw [hlt]; omega), List.take_take, Nat.min_eq_left (by omega)]
              unfold sizeQ at h2 ⊢
              rw [e1]
              exact h2
            intro h0
            have := (oneQ_size h0).2
            rw [hs, hlt] at this
            omega
        rw [if_pos hbad]
        exact hbad
      · have hlp : 0 < (quesB l).length := by
          cases l with
          | nil => exact absurd rfl hl
          | cons q' l' =>
            have := (one_que [] (by have := hg.2; simp only [List.all_cons, Bool.and_eq_true] at this; exact this.1) (hn q' (by simp))).2.2
            simp [quesB]
            omega
        have ht : (queB q ++ quesB l).take ((queB q).length + (quesB l).length - 1) = queB q ++ (quesB l).take ((quesB l).length - 1) := by
          rw [List.take_append, List.take_of_length_le (by omega), show (queB q).length + (quesB l).length - 1 - (queB q).length = (quesB l).length - 1 by omega]
        obtain ⟨k1, k2, -⟩ := one_que ((quesB l).take ((quesB l).length - 1)) hg.1 (hn q (by simp))
        rw [ht, decA, if_neg (by rw [List.length_append]; omega), k1, if_neg (by simp), k2, List.drop_left]
        exact ih f _ hl hg.2 (fun q hq => hn q (by simp [hq])) (by omega)
/-- A byte less is an error. -/
theorem dec_less {l : List Que} (hn : ∀ q ∈ l, okQue q) (h : (encQ l).2 = 0) (h0 : 0 < (encQ l).1.length) : (decQ ((encQ l).1.take ((encQ l).1.length - 1))).2 ≠ 0 := by
  unfold encQ at h h0 ⊢
  split at h
  · rename_i hc
    rw [if_pos hc] at h0 ⊢
    simp only at h0 ⊢
    have hl : l ≠ [] := by rintro rfl; simp [quesB] at h0
    have := decA_cut l ((quesB l).take ((quesB l).length - 1)).length [] hl hc.1 hn (by rw [List.length_take]; omega)
    unfold decQ
    rw [if_pos this]
    exact this
  · cases h
theorem que_one {bs : List Int} (hu : U8 bs) (h : (oneQ bs).2 = 0) : goodQ (oneQ bs).1 = true ∧ queB (oneQ bs).1 = bs.take (sizeQ bs) := by
  have hsz := oneQ_size h
  have h16 : 16 ≤ bs.length := by omega
  rcases hdr_cases hu h16 with ho | ⟨a, b, n, hh, hn, ha, hb, hz⟩
  · rw [oneQ_odd h16 ho] at h; cases h
  · by_cases hbad : sizeQ bs < 16 ∨ sizeQ bs % 8 ≠ 0 ∨ bs.length < sizeQ bs
    · rw [oneQ_bad h16 hh hbad] at h; cases h
    · have hO := oneQ_good h16 hh (by omega) (by omega) (by omega)
      generalize hps : propsQ ((bs.take (sizeQ bs)).drop 16) = r at hO
      obtain ⟨ps, e⟩ := r
      by_cases he : e ≠ 0
      · rw [hO, if_pos he] at h; exact absurd h he
      · have he : e = 0 := by simpa using he
        subst he
        rw [if_neg (by simp)] at hO
        simp only at hO
        have hu' : U8 ((bs.take (sizeQ bs)).drop 16) := fun z hz => hu z (List.mem_of_mem_take (List.mem_of_mem_drop hz))
        obtain ⟨k, hk1, hk2, hk3⟩ := propsA_dec _ _ [] ps hu' (Nat.le_refl _) hps
        rw [List.nil_append] at hk1
        subst hk1
        have hpl : 16 + (propsB ps).length = sizeQ bs := by rw [hk3, List.length_drop, List.length_take]; omega
        obtain ⟨g1, g2, -⟩ := putS_get hu hh
        rw [hO]
        simp only
        have hput : putS hdrQ [(a : Int), (b : Int), ((16 + (propsB ps).length : Nat) : Int)] = some (bs.take 16) := by
          rw [hpl, hz]
          exact g2
        refine ⟨?_, ?_⟩
        · unfold goodQ
          simp only
          rw [hk2, hput, decide_eq_true (by omega)]
          rfl
        · unfold queB
          simp only
          rw [hput, hk3]
          show bs.take 16 ++ _ = _
          rw [show bs.take 16 = (bs.take (sizeQ bs)).take 16 by rw [List.take_take, Nat.min_eq_left (by omega)], List.take_append_drop]
theorem decA_dec : ∀ (f : Nat) (bs : List Int) (acc m : List Que), U8 bs → bs.length ≤ f → decA f acc bs = (m, 0) → ∃ k, m = acc ++ k ∧ k.all goodQ = true ∧ quesB k = bs := by
  intro f
  induction f with
  | zero =>
    intro bs acc m hu hf h
    have : bs = [] := List.eq_nil_of_length_eq_zero (by omega)
    subst this
    rw [decA] at h
    injection h with h _
    exact ⟨[], by simp [h], rfl, rfl⟩
  | succ f ih =>
    intro bs acc m hu hf h
    rw [decA] at h
    by_cases h0 : bs.length = 0
    · rw [if_pos h0] at h
      have : bs = [] := List.eq_nil_of_length_eq_zero h0
      subst this
      injection h with h _
      exact ⟨[], by simp [h], rfl, rfl⟩
    · rw [if_neg h0] at h
      by_cases h1 : (oneQ bs).2 ≠ 0
      · rw [if_pos h1] at h; injection h with _ h; exact absurd h h1
      · rw [if_neg h1] at h
        have h1' : (oneQ bs).2 = 0 := by simpa using h1
        have hsz := oneQ_size h1'
        obtain ⟨g1, g2⟩ := que_one hu h1'
        obtain ⟨k, hk1, hk2, hk3⟩ := ih _ _ _ (fun z hz => hu z (List.mem_of_mem_drop hz)) (by rw [List.length_drop]; omega) h
        refine ⟨(oneQ bs).1 :: k, by rw [hk1]; simp, by rw [List.all_cons, g1, hk2]; rfl, ?_⟩
        have : quesB ((oneQ bs).1 :: k) = queB (oneQ bs).1 ++ quesB k := by simp [quesB]
        rw [this, g2, hk3, List.take_append_drop]
/-- What is decoded, encoded again, is those bytes. -/
theorem enc_dec {bs : List Int} (hu : U8 bs) (h : (decQ bs).2 = 0) : encQ (decQ bs).1 = (bs, 0) := by
  unfold decQ at h ⊢
  by_cases h1 : (decA bs.length [] bs).2 ≠ 0
  · rw [if_pos h1] at h; exact absurd h h1
  · rw [if_neg h1] at h ⊢
    by_cases h2 : 65528 < bs.length
    · rw [if_pos h2] at h; cases h
    · rw [if_neg h2]
      have h1' : (decA bs.length [] bs).2 = 0 := by simpa using h1
      obtain ⟨k, hk1, hk2, hk3⟩ := decA_dec _ bs [] (decA bs.length [] bs).1 hu (Nat.le_refl _) (by rw [← h1'])
      rw [List.nil_append] at hk1
      rw [hk1, encQ, hk3, if_pos ⟨hk2, by omega⟩]
theorem dec_err {bs : List Int} (h : (decQ bs).2 ≠ 0) : (decQ bs).1 = [] := by
  have key : ∀ (f : Nat) (acc : List Que) (bs : List Int), (decA f acc bs).2 ≠ 0 → (decA f acc bs).1 = [] := by
    intro f
    induction f with
    | zero => intro acc bs h; exact absurd rfl h
    | succ f ih =>
      intro acc bs h
      rw [decA] at h ⊢
      by_cases h0 : bs.length = 0
      · rw [if_pos h0] at h; exact absurd rfl h
      · rw [if_neg h0] at h ⊢
        by_cases h1 : (oneQ bs).2 ≠ 0
        · rw [if_pos h1]
        · rw [if_neg h1] at h ⊢; exact ih _ _ h
  unfold decQ at h ⊢
  by_cases h1 : (decA bs.length [] bs).2 ≠ 0
  · rw [if_pos h1]; exact key _ _ _ h1
  · rw [if_neg h1] at h ⊢
    by_cases h2 : 65528 < bs.length
    · rw [if_pos h2]
    · rw [if_neg h2] at h; exact absurd h h1
end Go.Proofs.Ytoobcgakainelaa
