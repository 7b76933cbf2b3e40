/- queue.Encode in plain Lean, and the walks of queue.Encode, Right and Put. Conditions: not too many queues and properties. The walk of the document's Few (18). Conditions: none. -/
import Derived.Test.YtoobcgakainelaaZQueD
namespace Go.Proofs.Ytoobcgakainelaa
open Go.RowKit

/-! ### plain -/
theorem Bf.fail_er {s : Bf} (h : s.er ≠ 0) (x : Int) : s.fail x = s := by rw [Bf.fail, if_neg h]
theorem Bf.fail_ne {s : Bf} (x : Int) (h : s.er ≠ 0 ∨ x ≠ 0) : (s.fail x).er ≠ 0 := by
  unfold Bf.fail
  split
  · rename_i h0; exact h.resolve_left (fun h => h h0)
  · assumption
theorem Bf.bytes_ne {s : Bf} (h : s.er ≠ 0) (xs : List Int) : (s.bytes xs).er ≠ 0 := by rw [Bf.bytes, if_pos h]; exact h
theorem Bf.row_ne {s : Bf} (h : s.er ≠ 0) (ws ns : List Int) : (s.row ws ns).er ≠ 0 := by
  unfold Bf.row
  split
  · exact Bf.fail_ne _ (.inl h)
  · exact Bf.bytes_ne h _
theorem failIf_ne {s : Bf} {b : Bool} (h : s.er ≠ 0 ∨ b = false) : (failIf b s).er ≠ 0 := by
  unfold failIf
  split
  · rename_i hb; exact h.resolve_right (by rw [hb]; decide)
  · exact Bf.fail_ne _ (.inr (by decide))
theorem putQ_ne {s : Bf} (h : s.er ≠ 0) (q : Que) : (putQ s q).er ≠ 0 :=
  Bf.bytes_ne (Bf.row_ne (failIf_ne (.inl (Bf.fail_ne _ (.inl (failIf_ne (.inl h)))))) _ _) _

theorem goodP_all {ps : List Prp} : ps.all goodP = ((ps.all fun p => (bodyQ p).isSome) && (ps.map itemQ).all shQ.good) := by
  induction ps with
  | nil => rfl
  | cons p ps ih =>
    rw [List.all_cons, ih, List.all_cons, List.map_cons, List.all_cons]
    unfold goodP
    cases (bodyQ p).isSome <;> cases shQ.good (itemQ p) <;> cases (ps.all fun p => (bodyQ p).isSome) <;> rfl
theorem joinQ_good {ps : List Prp} (h : (ps.map itemQ).all shQ.good = true) : joinQ ps = (propsB ps, 0) := by
  unfold joinQ Sh.join
  rw [shQ_may, h]
  rfl
theorem joinQ_bad {ps : List Prp} (h : (ps.map itemQ).all shQ.good = false) : joinQ ps = ([], 10001) := by
  unfold joinQ Sh.join
  rw [h]
  simp
/-- A queue that may not be: an error. -/
theorem putQ_bad {s : Bf} {q : Que} (h : goodQ q = false) : (putQ s q).er ≠ 0 := by
  unfold putQ
  refine Bf.bytes_ne ?_ _
  unfold goodQ at h
  rw [goodP_all] at h
  cases hA : (q.2.2.all fun p => (bodyQ p).isSome) with
  | false =>
    refine Bf.row_ne ?_ _ _
    unfold putA
    rw [hA]
    exact failIf_ne (.inl (Bf.fail_ne _ (.inl (failIf_ne (.inr rfl)))))
  | true =>
    cases hB : ((q.2.2.map itemQ).all shQ.good) with
    | false =>
      refine Bf.row_ne ?_ _ _
      unfold putA
      rw [joinQ_bad hB]
      exact failIf_ne (.inl (Bf.fail_ne _ (.inr (by decide))))
    | true =>
      rw [hA, hB] at h
      rw [joinQ_good hB]
      cases hC : decide (16 + (propsB q.2.2).length ≤ 65528) with
      | false =>
        refine Bf.row_ne ?_ _ _
        unfold putA
        rw [joinQ_good hB]
        exact failIf_ne (.inr hC)
      | true =>
        rw [hC] at h
        have hp : putS hdrQ [q.1, q.2.1, (16 + (propsB q.2.2).length : Nat)] = none := by simpa using h
        unfold Bf.row
        simp only [hp]
        exact Bf.fail_ne _ (.inr (by decide))
/-- A queue that may be: its bytes, or an error. -/
theorem putQ_good {s : Bf} {q : Que} (h : goodQ q = true) (h0 : s.er = 0) : (s.bs.length + (queB q).length ≤ s.room ∧ putQ s q = { s with bs := s.bs ++ queB q }) ∨ (s.room < s.bs.length + (queB q).length ∧ (putQ s q).er ≠ 0) := by
  unfold goodQ at h
  rw [goodP_all] at h
  simp only [Bool.and_eq_true] at h
  obtain ⟨⟨hA, hB⟩, hC, hD⟩ := h
  have hs : putA s q = s := by
    unfold putA
    rw [joinQ_good hB, hA]
    show failIf (decide (16 + (propsB q.2.2).length ≤ 65528)) _ = _
    rw [hC]
    show (s.fail 0) = s
    rw [Bf.fail, if_pos h0, ← h0]
  obtain ⟨c, hc⟩ := Option.isSome_iff_exists.1 hD
  have hq : queB q = c ++ propsB q.2.2 := by unfold queB; rw [hc]; rfl
  unfold putQ
  rw [hs, joinQ_good hB]
  unfold Bf.row
  simp only [hc]
  rw [hq, List.length_append]
  by_cases h1 : s.bs.length + c.length ≤ s.room
  · rw [bytes_b_fine h0 (by omega)]
    by_cases h2 : s.bs.length + c.length + (propsB q.2.2).length ≤ s.room
    · refine .inl ⟨by omega, ?_⟩
      rw [bytes_b_fine (by exact h0) (by simp only [List.length_append]; omega)]
      simp
    · refine .inr ⟨by omega, ?_⟩
      rw [Bf.bytes, if_neg (by simp [h0]), if_pos (by simp only [List.length_append]; omega)]
      exact Bf.fail_ne _ (.inr (by decide))
  · refine .inr ⟨by omega, Bf.bytes_ne ?_ _⟩
    rw [Bf.bytes, if_neg (by simp [h0]), if_pos (by omega)]
    exact Bf.fail_ne _ (.inr (by decide))

/-- What the buffer has come to. -/
def encS (l : List Que) : Bf := l.foldl putQ (Bf.new 65528)
theorem encS_snoc (l : List Que) (q : Que) : encS (l ++ [q]) = putQ (encS l) q := by simp [encS, List.foldl_append]
theorem quesB_snoc (l : List Que) (q : Que) : quesB (l ++ [q]) = quesB l ++ queB q := by simp [quesB]
theorem encS_is : ∀ n (l : List Que), l.length = n → (l.all goodQ = true ∧ (quesB l).length ≤ 65528 ∧ encS l = ⟨quesB l, 65528, .map [], 0, 0⟩) ∨ (¬ (l.all goodQ = true ∧ (quesB l).length ≤ 65528) ∧ (encS l).er ≠ 0) := by
  intro n
  induction n with
  | zero =>
    intro l hl
    obtain rfl := List.eq_nil_of_length_eq_zero hl
    exact .inl ⟨rfl, by simp [quesB], rfl⟩
  | succ n ih =>
    intro l hl
    obtain ⟨l', q, rfl⟩ : ∃ l' q, l = l' ++ [q] := ⟨l.dropLast, l.getLast (by intro e; subst e; simp at hl), (List.dropLast_concat_getLast _).symm⟩
    rw [encS_snoc, quesB_snoc, List.all_append, List.length_append]
    rcases ih l' (by simpa using hl) with ⟨h1, h2, h3⟩ | ⟨h1, h2⟩
    · cases hg : goodQ q with
      | false => exact .inr ⟨by simp [hg], putQ_bad hg⟩
      | true =>
        have := putQ_good (s := encS l') hg (by rw [h3])
        rw [h3] at this ⊢
        rcases this with ⟨h4, h5⟩ | ⟨h4, h5⟩
        · exact .inl ⟨by simp [h1, hg], h4, h5⟩
        · exact .inr ⟨by intro h; have := h.2; simp only at h4; omega, h5⟩
    · refine .inr ⟨fun h => h1 ⟨by have := h.1; simp only [Bool.and_eq_true] at this; exact this.1, by omega⟩, putQ_ne h2 q⟩
theorem encS_done (l : List Que) : ((encS l).done.2 = 0 ∧ (encS l).done.1 = (encQ l).1 ∧ (encQ l).2 = 0) ∨ ((encS l).done.2 ≠ 0 ∧ encQ l = ([], 10001)) := by
  rcases encS_is _ l rfl with ⟨h1, h2, h3⟩ | ⟨h1, h2⟩
  · left
    rw [h3, encQ, if_pos ⟨h1, h2⟩]
    unfold Bf.done
    rw [if_neg (by simp), if_neg (by simp [Maps.size])]
    exact ⟨rfl, rfl, rfl⟩
  · right
    rw [encQ, if_neg h1]
    unfold Bf.done
    rw [if_pos h2]
    exact ⟨h2, rfl⟩

/-! ### walks -/
set_option maxRecDepth 100000
set_option maxHeartbeats 4000000
def fewL (l : List Que) : Prop := l.length ≤ 10000 ∧ ∀ q ∈ l, fewP q.2.2
/-- What queue.Encode hands back. -/
def GotEnc (l : List Que) (w : World) (e : Ending) (w' : World) : Prop :=
  ∃ v, e = .returned (.tuple #[v, .int .i64 (encQ l).2]) ∧ w'.ownsRow w.heap.size 5 1 v (encQ l).1.length ((encQ l).1.map (Value.int .u8)) ∧ U8 (encQ l).1 ∧ Below w.heap.size w w'

theorem que_encode {v : Value} {l : List Que} {w : World} (h : RowsOf QueR 3 w v l) (hf : fewL l) : Calls Try.prog 31 #[v] w (GotEnc l w) := by
  obtain ⟨a, cap, b, off, rfl, hcap, hmx, -, ha, hit⟩ := ques_open h
  unfold maxLen at hmx
  have A := Lib.hid ha
  have HIt := Lib.hid hit
  have HF := Lib.hid hf
  clear h ha hit hf
  go_enter Try.func31, Try.ntmps31
  go_wp2_with fail
  refine (buf_new (n := 65528) (by omega) w).mono ?_
  rintro e w1 ⟨p, m, rfl, hbu, hb⟩
  have HB1 := Lib.hid hb
  have HU1 := Lib.hid hbu
  clear hb hbu
  go_wp2_with fail
  go_loopw [12] (fun i wr => ∃ (k : Nat) (g : Option Nat), k ≤ l.length ∧ i = .int .i64 k ∧ Hid (Buf w.heap.size wr p m g (encS (l.take k))) ∧ Hid (Below w.heap.size w wr)) (fun i _ => l.length - (intOf i).toNat)
  case atStart => exact ⟨0, none, by omega, rfl, HU1.out, HB1.out⟩
  case round =>
    obtain ⟨k, g, hk, rfl, HU, HB⟩ := hrel
    by_cases hlt : k < l.length
    · obtain rfl := A.out (by omega)
      obtain ⟨⟨n, m', ps⟩, hx⟩ : ∃ x, l[k]? = some x := ⟨_, List.getElem?_eq_getElem hlt⟩
      obtain ⟨pv, x0, x1, x2, hq, hwn, hwm⟩ := HIt.out k n m' ps hx
      have hfp : fewP ps := HF.out.2 _ (List.mem_of_getElem? hx)
      have y0 := (HB.out.cell (World.block_lt_of_cell? _ _ x0)).trans x0
      have y1 := (HB.out.cell (World.block_lt_of_cell? _ _ x1)).trans x1
      have y2 := (HB.out.cell (World.block_lt_of_cell? _ _ x2)).trans x2
      have HS : Hid (encS (l.take (k + 1)) = putQ (encS (l.take k)) (n, m', ps)) := by show _ = _; rw [take_snoc' hx, encS_snoc]
      have hb2 := HB.out.trans ((below_alloc2 (w := wr) (.cells #[.int .u64 n, .int .u64 m', pv] 79)).mono HB.out.size)
      have hp := que_put hb2 (Nat.le_refl _) (HU.out.below (below_alloc2 (.cells #[.int .u64 n, .int .u64 m', pv] 79))) hq hfp hwn hwm
      have hfr := (HU.out.below (below_alloc2 (w := wr) (.cells #[.int .u64 n, .int .u64 m', pv] 79))).from
      obtain ⟨ap, capp, bp, op, rfl, -⟩ := prps_open hq
      have HP := Lib.hid hp
      have HB2 := Lib.hid hb2
      have HFr := Lib.hid hfr
      have e1 : decide ((k : Int) < (l.length : Int)) = true := decide_eq_true (by omega)
      have hk10 : k ≤ 10000 := by have := HF.out.1; omega
      clear hx x0 x1 x2 hq hp hb2 hfr
      go_wp2_with fail
      refine HP.out.mono ?_
      rintro e w5 ⟨rfl, g2, hbu, ht, -⟩
      have HU5 := Lib.hid hbu
      have HB5 := Lib.hid (ht.below HB2.out HB2.out.size HFr.out)
      clear ht hbu
      go_wp2_with fail
      go_roundw
      case rel => exact ⟨k + 1, g2, by omega, by go_num, by rw [HS.out]; exact HU5.out, HB5.out⟩
      case measure => simp [intOf]; omega
    · obtain rfl : k = l.length := by omega
      rw [List.take_length] at HU
      have e1 : decide ((l.length : Int) < (l.length : Int)) = false := decide_eq_false (by omega)
      have hd := buf_done HU.out
      have HQ := Lib.hid (encS_done l)
      have HU8 : Hid (U8 (encQ l).1) := by
        show U8 _
        rcases HQ.out with ⟨h1, h2, h3⟩ | ⟨h1, h2⟩
        · rw [← h2]
          unfold Bf.done
          split
          · exact fun z hz => by simp at hz
          · split
            · exact fun z hz => by simp at hz
            · exact HU.out.okBs.1
        · rw [h2]; exact fun z hz => by simp at hz
      generalize (encS l).done = dn at hd HQ
      obtain ⟨db, de⟩ := dn
      have HD := Lib.hid hd
      clear hd
      go_wp2_with fail
      refine HD.out.mono ?_
      rintro e w5 ⟨vx, rfl, hox, hb⟩
      have HX := Lib.hid hox
      have HB5 := Lib.hid (HB.out.trans (hb.mono HB.out.size))
      obtain ⟨ax, capx, rfl⟩ := own_slice hox
      clear hox hb
      rcases HQ.out with ⟨h1, h2, h3⟩ | ⟨h1, h2⟩
      · subst h1
        subst h2
        have HE := Lib.hid h3
        clear h3
        go_wp2_with fail
        go_ret2
        unfold GotEnc
        rw [HE.out]
        exact ⟨_, rfl, own_base HX.out HB.out.size, HU8.out, HB5.out⟩
      · have e2 : (de != 0) = true := by simpa using h1
        have HE := Lib.hid h2
        clear h1 h2
        go_wp2_with fail
        go_ret2
        unfold GotEnc
        rw [HE.out]
        exact ⟨_, rfl, World.ownsRow_nil _ _ _ _, fun z hz => by simp at hz, HB5.out⟩

theorem que_right {v : Value} {l : List Que} {w : World} (h : RowsOf QueR 3 w v l) (hf : fewL l) : Calls Try.prog 37 #[v] w fun e w' => e = .returned (.bool ((encQ l).2 == 0)) ∧ Below w.heap.size w w' := by
  have HE := Lib.hid (que_encode h hf)
  obtain ⟨a, cap, b, off, rfl, -⟩ := ques_open h
  clear h hf
  go_enter Try.func37, Try.ntmps37
  go_wp2_with fail
  refine HE.out.mono ?_
  rintro e w1 ⟨vx, rfl, hox, hux, hb⟩
  have HB := Lib.hid hb
  obtain ⟨ax, capx, rfl⟩ := own_slice hox
  clear hox hux hb
  generalize hen : encQ l = er
  have HEn := Lib.hid hen
  clear hen
  go_wp2_with fail
  go_ret
  rw [HEn.out]
  exact ⟨rfl, HB.out⟩

theorem que_Put {L : Nat} {w : World} {p m : Nat} {g : Option Nat} {s : Bf} (hb : Buf L w p m g s) {v : Value} {l : List Que} (h : RowsOf QueR 3 w v l) (hf : fewL l) :
    Calls Try.prog 35 #[.pointer (some ⟨p, 0, none⟩), v] w (GotB L w p m g ((s.fail (encQ l).2).bytes (encQ l).1) (.tuple #[])) := by
  have HE := Lib.hid (que_encode h hf)
  have HU := Lib.hid hb
  obtain ⟨a, cap, b, off, rfl, -⟩ := ques_open h
  clear h hf hb
  go_enter Try.func35, Try.ntmps35
  go_wp2_with fail
  refine HE.out.mono ?_
  rintro e w1 ⟨vx, rfl, hox, hux, hb⟩
  have HB := Lib.hid hb
  have HX := Lib.hid hox
  have HU8 := Lib.hid hux
  obtain ⟨ax, capx, rfl⟩ := own_slice hox
  have HU1 := Lib.hid (HU.out.below hb)
  clear hox hux hb
  generalize hen : encQ l = en at HX HU8 ⊢
  obtain ⟨x, er⟩ := en
  have HEn := Lib.hid hen
  clear hen
  simp only at HX HU8 ⊢
  go_wp2_with fail
  refine (buf_fail_g HU1.out er).mono ?_
  rintro e w2 ⟨rfl, hbf, hgp⟩
  have hpw : p < w.heap.size := HU.out.lt
  have HX2 := Lib.hid (own_kept HX.out hgp (by
    obtain ⟨bv, n, q1, q2, q3, -⟩ := HU1.out
    exact NotTy.of_block q1 (by decide)))
  have HU2 := Lib.hid hbf
  have HT2 : Hid (Turn w w2 (foot p m g)) := Turn.trans (S := foot p m g) (Turn.of_below HB.out _) (Turn.of_grown hgp (S := (· = p)) (fun k e _ => by injection e with e; exact e.symm)) (fun k _ e => .inl e)
  clear hbf hgp
  go_wp2_with fail
  refine (buf_bytes HU2.out (Ints.of_own HX2.out HU8.out.wf)).mono ?_
  rintro e w3 ⟨rfl, g2, hbu, ht, hg⟩
  have HU3 := Lib.hid hbu
  have HT3 := Lib.hid (HT2.out.trans ht (fun _ _ h => h))
  have HG : Hid (∀ k, g2 = some k → g = some k ∨ w.heap.size ≤ k) := fun k e => (hg k e).imp id (fun h => Nat.le_trans HT2.out.size h)
  clear hbu ht hg
  go_wp2_with fail
  go_end0
  rw [HEn.out]
  exact ⟨rfl, g2, HU3.out, HT3.out, HG.out⟩
end Go.Proofs.Ytoobcgakainelaa
namespace Go.Proofs.Ytoobcgakainelaa
open Go.RowKit
set_option maxRecDepth 100000
set_option maxHeartbeats 4000000

def few1 (q : Que) : Bool := q.2.2.all (fun p => decide (p.2.2.length ≤ 300)) && decide (q.2.2.length ≤ 20)
/-- Are there not too many queues? -/
def fewQ (l : List Que) : Bool := l.all few1 && decide (l.length ≤ 20)
theorem fewQ_l {l : List Que} (h : fewQ l = true) : fewL l := by
  simp only [fewQ, Bool.and_eq_true, decide_eq_true_eq] at h
  refine ⟨by omega, fun q hq => ?_⟩
  have := List.all_eq_true.1 h.1 q hq
  simp only [few1, Bool.and_eq_true, decide_eq_true_eq] at this
  refine ⟨by omega, fun x hx => ?_⟩
  have := List.all_eq_true.1 this.1 x hx
  simp only [decide_eq_true_eq] at this
  omega

theorem ref_few {v : Value} {l : List Que} {w : World} (h : RowsOf QueR 3 w v l) : Calls Try.prog 30 #[v] w fun e w' => e = .returned (.bool (fewQ l)) ∧ w = w' := by
  obtain ⟨a, cap, b, off, rfl, hcap, hmx, -, ha, hit⟩ := ques_open h
  unfold maxLen at hmx
  have A := Lib.hid ha
  have HIt := Lib.hid hit
  clear h ha hit
  go_enter Try.func30, Try.ntmps30
  go_wp2_with fail
  go_loopw [2, 3] (fun r i wi => ∃ k : Nat, k ≤ l.length ∧ i = .int .i64 k ∧ r = .bool false ∧ wi = w ∧ Hid ((l.take k).all few1 = true)) (fun _ i _ => l.length - (intOf i).toNat)
  case atStart => exact ⟨0, by omega, rfl, rfl, rfl, rfl⟩
  case round =>
    obtain ⟨k, hk, rfl, rfl, rfl, HT⟩ := hrel
    by_cases hlt : k < l.length
    · obtain rfl := A.out (by omega)
      obtain ⟨⟨n, m, ps⟩, hx⟩ : ∃ x, l[k]? = some x := ⟨_, List.getElem?_eq_getElem hlt⟩
      obtain ⟨pv, x0, x1, x2, hq, -, -⟩ := HIt.out k n m ps hx
      obtain ⟨ap, capp, bp, op, rfl, hcapp, hmxp, -, hap, hitp⟩ := prps_open hq
      unfold maxLen at hmxp
      have AP := Lib.hid hap
      have HItp := Lib.hid hitp
      have HX := Lib.hid hx
      have e1 : decide ((k : Int) < (l.length : Int)) = true := decide_eq_true (by omega)
      clear hq hap hitp hx
      go_wp2_with fail
      go_loopw [2, 4] (fun r i wi => ∃ j : Nat, j ≤ ps.length ∧ i = .int .i64 j ∧ r = .bool false ∧ wi = wr ∧ Hid ((ps.take j).all (fun p => decide (p.2.2.length ≤ 300)) = true)) (fun _ i _ => ps.length - (intOf i).toNat)
      case atStart => exact ⟨0, by omega, rfl, rfl, rfl, rfl⟩
      case round =>
        obtain ⟨j, hj, rfl, rfl, rfl, HJ⟩ := hrel
        by_cases hjt : j < ps.length
        · obtain rfl := AP.out (by omega)
          obtain ⟨⟨t, z, bs⟩, hy⟩ : ∃ x, ps[j]? = some x := ⟨_, List.getElem?_eq_getElem hjt⟩
          obtain ⟨dv, y0, y1, y2, hd, -, -⟩ := HItp.out j t z bs hy
          obtain ⟨ad, capd, bd, od, rfl, -⟩ := hd.open
          have hbl := hd.le
          have HY := Lib.hid hy
          have e3 : decide ((j : Int) < (ps.length : Int)) = true := decide_eq_true (by omega)
          clear hd hy
          by_cases hc : bs.length ≤ 300
          · have e4 : decide ((300 : Int) < (bs.length : Int)) = false := decide_eq_false (by omega)
            have HT1 : Hid ((ps.take (j + 1)).all (fun p => decide (p.2.2.length ≤ 300)) = true) := by rw [Hid, take_snoc' HY.out, List.all_append, HJ.out]; simp [hc]
            go_wp2_with fail
            go_roundw
            case rel => exact ⟨j + 1, by omega, by go_num, by first | rfl | trivial, by first | rfl | trivial, HT1.out⟩
            case measure => simp [intOf]; omega
          · have e4 : decide ((300 : Int) < (bs.length : Int)) = true := decide_eq_true (by omega)
            have HF : Hid (fewQ l = false) := by
              have : l.all few1 = false := by
                rw [List.all_eq_false]
                refine ⟨_, List.mem_of_getElem? HX.out, ?_⟩
                have : ps.all (fun p => decide (p.2.2.length ≤ 300)) = false := by
                  rw [List.all_eq_false]; exact ⟨_, List.mem_of_getElem? HY.out, by simpa using hc⟩
                simp only [few1]
                rw [this]
                simp
              show _ = _; unfold fewQ; rw [this]; rfl
            clear hc
            go_wp2_with fail
            go_ret
            exact ⟨by rw [HF.out]; rfl, rfl⟩
        · obtain rfl : j = ps.length := by omega
          have HA : Hid (ps.all (fun p => decide (p.2.2.length ≤ 300)) = true) := by have := HJ.out; rw [List.take_length] at this; exact this
          have e3 : decide ((ps.length : Int) < (ps.length : Int)) = false := decide_eq_false (by omega)
          by_cases hc : ps.length ≤ 20
          · have e4 : decide ((20 : Int) < (ps.length : Int)) = false := decide_eq_false (by omega)
            have HT1 : Hid ((l.take (k + 1)).all few1 = true) := by rw [Hid, take_snoc' HX.out, List.all_append, HT.out]; simp only [List.all_cons, List.all_nil, few1, HA.out, Bool.true_and, Bool.and_true]; exact decide_eq_true hc
            go_wp2_with fail
            go_roundw
            case rel => exact ⟨k + 1, by omega, by go_num, by first | rfl | trivial, by first | rfl | trivial, HT1.out⟩
            case measure => simp [intOf]; omega
          · have e4 : decide ((20 : Int) < (ps.length : Int)) = true := decide_eq_true (by omega)
            have HF : Hid (fewQ l = false) := by
              have : l.all few1 = false := by
                rw [List.all_eq_false]
                refine ⟨_, List.mem_of_getElem? HX.out, ?_⟩
                simp only [few1]
                rw [decide_eq_false hc]
                simp
              show _ = _; unfold fewQ; rw [this]; rfl
            clear hc
            go_wp2_with fail
            go_ret
            exact ⟨by rw [HF.out]; rfl, rfl⟩
    · obtain rfl : k = l.length := by omega
      have HF : Hid (fewQ l = decide (l.length ≤ 20)) := by
        have := HT.out; rw [List.take_length] at this
        show _ = _; unfold fewQ; rw [this, Bool.true_and]
      have e1 : decide ((l.length : Int) < (l.length : Int)) = false := decide_eq_false (by omega)
      by_cases h40 : l.length ≤ 20
      · have e2 : decide ((l.length : Int) ≤ 20) = true := decide_eq_true (by omega)
        go_wp2_with fail
        go_ret
        exact ⟨by rw [HF.out, decide_eq_true h40]; rfl, rfl⟩
      · have e2 : decide ((l.length : Int) ≤ 20) = false := decide_eq_false (by omega)
        go_wp2_with fail
        go_ret
        exact ⟨by rw [HF.out, decide_eq_false h40]; rfl, rfl⟩
end Go.Proofs.Ytoobcgakainelaa
