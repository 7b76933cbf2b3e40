/- The walks of queue.take, queue.Take and queue.Decode. Conditions: no fault before; the cursor lies below. -/
import Derived.Test.YtoobcgakainelaaZQueR
namespace Go.Proofs.Ytoobcgakainelaa
open Go.RowKit

theorem que_take {B : Nat × Nat} {w : World} {p : Nat} {s : St} (h : Cur B w p s) (hB : B.2 ≤ w.heap.size) (he : s.er = 0) (hs : s.sh ≠ 0) : Calls Try.prog 56 #[.pointer (some ⟨p, 0, none⟩)] w (GotTake B w p s) := by
  have hu : U8 s.rest := fun z hz => h.ok.2 z (List.mem_of_mem_drop hz)
  by_cases hl : s.rest.length < 16
  · exact take_short h hB he hl
  · have hl : 16 ≤ s.rest.length := by omega
    rcases hdr_cases hu hl with ho | ⟨a, b, n, hh, hn, ha, hb, hz⟩
    · exact take_odd h hB he hs hl ho
    · by_cases h1 : n < 16
      · exact take_bad1 h hB he hs hl hh hn ha hb hz h1
      · by_cases h2 : n % 8 ≠ 0
        · exact take_bad2 h hB he hs hl hh hn ha hb hz (by omega) h2
        · by_cases h3 : s.rest.length < n
          · exact take_bad3 h hB he hs hl hh hn ha hb hz (by omega) (by omega) h3
          · exact take_good h hB he hs hl hh hn ha hb hz (by omega) (by omega) (by omega)

/-! ### queues, read -/
theorem oneQ_size {bs : List Int} (h : (oneQ bs).2 = 0) : 16 ≤ sizeQ bs ∧ sizeQ bs ≤ bs.length := by
  unfold oneQ at h
  split at h
  · cases h
  · split at h
    · cases h
    · split at h
      · cases h
      · omega
theorem decA_fuel : ∀ (f g : Nat) (acc : List Que) (bs : List Int), bs.length ≤ f → bs.length ≤ g → decA f acc bs = decA g acc bs := by
  intro f
  induction f with
  | zero =>
    intro g acc bs hf hg
    have h0 : bs.length = 0 := by omega
    cases g with
    | zero => rfl
    | succ g => rw [decA, decA, if_pos h0]
  | succ f ih =>
    intro g acc bs hf hg
    cases g with
    | zero => rw [decA, decA, if_pos (by omega)]
    | succ g =>
      rw [decA, decA]
      by_cases h0 : bs.length = 0
      · rw [if_pos h0, if_pos h0]
      · rw [if_neg h0, if_neg h0]
        by_cases h1 : (oneQ bs).2 ≠ 0
        · rw [if_pos h1, if_pos h1]
        · rw [if_neg h1, if_neg h1]
          have hok := oneQ_size (by simpa using h1)
          exact ih g _ _ (by rw [List.length_drop]; omega) (by rw [List.length_drop]; omega)
/-- The state of the reading: no fault yet, or the first one. -/
def DecE (r : List Int) (acc : List Que) (rest : List Int) (er : Int) : Prop := (er = 0 ∧ decA r.length [] r = decA rest.length acc rest) ∨ (er ≠ 0 ∧ decA r.length [] r = ([], er))
theorem DecE.start (r : List Int) : DecE r [] r 0 := .inl ⟨rfl, rfl⟩
theorem DecE.done {r rest : List Int} {acc : List Que} {er : Int} (h : DecE r acc rest er) (h0 : er = 0 → rest.length = 0) : (er = 0 ∧ decA r.length [] r = (acc, 0)) ∨ (er ≠ 0 ∧ decA r.length [] r = ([], er)) := by
  rcases h with ⟨he, h⟩ | h
  · refine .inl ⟨he, ?_⟩
    rw [h, h0 he]
    rfl
  · exact .inr h
theorem DecE.step {r rest rest' : List Int} {acc : List Que} {q : Que} {er : Int} (h : DecE r acc rest 0) (h0 : 0 < rest.length) (he : er = (oneQ rest).2) (hq : er = 0 → q = (oneQ rest).1 ∧ rest' = rest.drop (sizeQ rest)) : DecE r (acc ++ [q]) rest' er := by
  rcases h with ⟨-, h⟩ | ⟨h, -⟩
  · obtain ⟨f, hf⟩ : ∃ f, rest.length = f + 1 := ⟨rest.length - 1, by omega⟩
    by_cases h1 : er = 0
    · obtain ⟨rfl, rfl⟩ := hq h1
      refine .inl ⟨h1, ?_⟩
      have hsz := oneQ_size (bs := rest) (he.symm.trans h1)
      rw [h, hf, decA, if_neg (by omega), if_neg (by rw [← he, h1]; decide)]
      exact decA_fuel _ _ _ _ (by rw [List.length_drop]; omega) (Nat.le_refl _)
    · refine .inr ⟨h1, ?_⟩
      rw [h, hf, decA, if_neg (by omega), if_pos (by rw [← he]; exact h1), he]
  · exact absurd rfl h
theorem decQ_done {r : List Int} {acc : List Que} {er : Int} (h : (er = 0 ∧ decA r.length [] r = (acc, 0)) ∨ (er ≠ 0 ∧ decA r.length [] r = ([], er))) :
    decQ r = if er ≠ 0 then ([], er) else if 65528 < r.length then ([], 263) else (acc, 0) := by
  unfold decQ
  rcases h with ⟨rfl, h⟩ | ⟨he, h⟩
  · rw [h]; rfl
  · rw [h, if_pos he, if_pos he]

theorem grown_row {w w1 w2 : World} {p : Nat} {row : Option Nat} (h : w.grownBy w1 (some p)) (hg : w1.grownBy w2 row) (hr : ∀ k, row = some k → w.heap.size ≤ k) : w.grownBy w2 (some p) :=
  ⟨hg.os.trans h.os, hg.tape.trans h.tape, hg.output.trans h.output, Nat.le_trans h.size hg.size, fun k hk hne => (hg.block k (Nat.lt_of_lt_of_le hk h.size) (fun e => by have := hr _ e.symm; omega)).trans (h.block k hk hne)⟩
/-- What queue.Take hands back. -/
def GotTakes (B : Nat × Nat) (w : World) (p : Nat) (s : St) (e : Ending) (w' : World) : Prop :=
  ∃ (v : Value) (s' : St), e = .returned v ∧ OutQ w.heap.size w' v (decQ s.rest).1 ∧ Cur B w' p s' ∧ w.grownBy w' (some p) ∧ s'.er = (decQ s.rest).2 ∧ (s'.er = 0 → s'.left = 0)
theorem GotTakes.no {B : Nat × Nat} {w w' : World} {p : Nat} {s s' : St} (hd : (decQ s.rest).1 = []) (hc : Cur B w' p s') (hg : w.grownBy w' (some p)) (h1 : s'.er = (decQ s.rest).2) (h2 : s'.er ≠ 0) : GotTakes B w p s (.returned (.slice none 0 0)) w' := by
  refine ⟨_, s', rfl, ?_, hc, hg, h1, fun h => absurd h h2⟩
  rw [hd]
  exact OutG.nil _ _ _ _ _

set_option maxRecDepth 100000
set_option maxHeartbeats 8000000
theorem que_Take {B : Nat × Nat} {w : World} {p : Nat} {s : St} (h : Cur B w p s) (hB : B.2 ≤ w.heap.size) (he : s.er = 0) (hs : s.sh ≠ 0) : Calls Try.prog 27 #[.pointer (some ⟨p, 0, none⟩)] w (GotTakes B w p s) := by
  have HC := Lib.hid h
  have HE := Lib.hid he
  have HS := Lib.hid hs
  have HB := Lib.hid hB
  have hlen : s.bs.length ≤ 1000000000 := by obtain ⟨bv, -, -, h3, -⟩ := h; exact h3.2
  have hpos : s.pos ≤ s.bs.length := h.ok.1
  clear h he hs hB
  go_enter Try.func27, Try.ntmps27
  go_wp2_with fail
  refine (cur_left HC.out).mono ?_
  rintro e w1 ⟨rfl, q1, rfl⟩
  go_wp2_with fail
  go_loopw [2] (fun v wr => ∃ (pre : List Que) (s' : St), Hid (OutQ w.heap.size wr v pre) ∧ Hid (Cur B wr p s') ∧ Hid (w.grownBy wr (some p)) ∧ Hid (s'.bs = s.bs ∧ s'.sh = s.sh ∧ (s'.er = 0 → pre.length + s.pos ≤ s'.pos)) ∧ Hid (DecE s.rest pre s'.rest s'.er) ∧ pre.length ≤ s.bs.length + 1) (fun v _ => s.bs.length + 2 - lenV v)
  case atStart => exact ⟨[], s, OutG.nil _ _ _ _ _, HC.out.drew q1, ⟨rfl, rfl, rfl, Nat.le_refl _, fun _ _ _ => rfl⟩, ⟨rfl, rfl, fun _ => by simp⟩, by rw [HE.out]; exact DecE.start _, by simp⟩
  case round =>
    obtain ⟨pre, s', HO, HC', HG, HT, HD, hcnt⟩ := hrel
    obtain ⟨ar, capr, rfl⟩ := OutG.slice HO.out
    have hBr : B.2 ≤ wr.heap.size := Nat.le_trans HB.out HG.out.size
    have hsr : s'.sh ≠ 0 := by rw [HT.out.2.1]; exact HS.out
    by_cases h0 : s'.er = 0 ∧ 0 < s'.left
    · obtain ⟨h0, hlf⟩ := h0
      have hce := cur_err HC'.out
      rw [h0] at hce
      have HCe := Lib.hid hce
      have HTk := Lib.hid (fun q => que_take (HC'.out.drew q) hBr h0 hsr)
      have H0 := Lib.hid h0
      have e1 : (0 : Int) < (s'.left : Int) := by omega
      have hps : s'.pos ≤ s.bs.length := by have := HC'.out.ok.1; rw [HT.out.1] at this; exact this
      have hpp := HT.out.2.2 h0
      have HSr := Lib.hid hsr
      clear hce h0 hsr
      go_wp2_with fail
      refine HCe.out.mono ?_
      rintro e w2 ⟨rfl, rfl⟩
      go_wp2_with fail
      refine (cur_left HC'.out).mono ?_
      rintro e w2 ⟨rfl, q2, rfl⟩
      go_wp2_with fail
      refine (HTk.out q2).mono ?_
      rintro e w3 ⟨⟨n, m, ps⟩, pv, s2, rfl, ho, hwn, hwm, hc, hg, hbs, hsh, her, hok⟩
      have hg' : wr.grownBy w3 (some p) := ⟨hg.os, hg.tape, hg.output, hg.size, hg.block⟩
      have O3 := Lib.hid (OutG.kept QueO.kind HO.out hg' (fun t ht => HC'.out.notTy (by rcases ht with (rfl | rfl) | rfl <;> decide)))
      obtain ⟨apv, cappv, rfl⟩ := OutG.slice ho
      have E3 : Hid (QueO w.heap.size w3 (n, m, ps) [.int .u64 n, .int .u64 m, .slice apv ps.length cappv]) := ⟨_, rfl, OutG.low PrpO.kind ho HG.out.size, hwn, hwm⟩
      have HC3 := Lib.hid hc
      have HG3 := Lib.hid (grown_trans HG.out hg')
      have HR := Lib.hid (And.intro hbs (And.intro hsh (And.intro her hok)))
      clear ho hwn hwm hc hg hg' hbs hsh her hok
      go_wp2_with (at_builtin; refine wpList_append_out QueO.kind rfl _ _ _ rfl w.heap.size 79 (by decide) (.agg #[.int .u64 0, .int .u64 0, .slice none 0 0]) 3 40 Try.underlying54 info_queue rfl (by decide) (.slice ar pre.length capr) pre (n, m, ps) rfl O3.out [.int .u64 n, .int .u64 m, .slice apv ps.length cappv] rfl rfl (by simp [Value.oneCell']) (by unfold maxLen; omega) (by omega) HG3.out.size E3.out ?_; intro v5 w5 hown hg; have HO5 := Lib.hid hown; have HC5 := Lib.hid (HC3.out.grown hg (fun k e => by obtain ⟨xs, how, -⟩ := O3.out; exact .inr (Nat.le_trans HB.out (how.lt k e).1))); have HG5 := Lib.hid (grown_row HG3.out hg (fun k e => by obtain ⟨xs, how, -⟩ := O3.out; exact (how.lt k e).1)); obtain ⟨a5, cap5, rfl⟩ := OutG.slice hown; clear hown hg)
      go_roundw
      case rel =>
        obtain ⟨r1, r2, r3, r4⟩ := HR.out
        rw [show (pre ++ [(n, m, ps)]).length = pre.length + 1 by simp] at HO5
        have hd := HD.out
        rw [H0.out] at hd
        have hrl : 0 < s'.rest.length := by rw [St.rest_left]; exact hlf
        refine ⟨pre ++ [(n, m, ps)], s2, HO5.out, HC5.out, HG5.out, ⟨r1.trans HT.out.1, r2.trans HT.out.2.1, fun h => ?_⟩, DecE.step hd hrl r3 (fun h => ⟨(r4 h).1, ?_⟩), by simp; omega⟩
        · have := (r4 h).2
          simp; omega
        · have := (r4 h).2.1
          show s2.bs.drop s2.pos = (s'.bs.drop s'.pos).drop (sizeQ s'.rest)
          rw [r1, this, List.drop_drop]
      case measure => simp [lenV]; omega
    · by_cases h1 : s'.er = 0
      · have h2 : s'.left = 0 := by
          rcases Nat.eq_zero_or_pos s'.left with h | h
          · exact h
          · exact absurd ⟨h1, h⟩ h0
        have hdn := decQ_done (HD.out.done (fun _ => by rw [St.rest_left]; exact h2))
        have hce := cur_err HC'.out
        rw [h1] at hce hdn
        rw [if_neg (by decide), St.rest_left] at hdn
        have HCe := Lib.hid hce
        have e1 : ¬ (0 : Int) < (s'.left : Int) := by omega
        have H1 := Lib.hid h1
        have H2 := Lib.hid h2
        clear hce h0 h1 h2 hsr
        by_cases hbig : 65528 < s.left
        · rw [if_pos hbig] at hdn
          have HDn := Lib.hid hdn
          have e2 : (65528 : Int) < (s.left : Int) := by omega
          clear hdn hbig
          go_wp2_with fail
          refine HCe.out.mono ?_
          rintro e w2 ⟨rfl, rfl⟩
          go_wp2_with fail
          refine (cur_left HC'.out).mono ?_
          rintro e w2 ⟨rfl, q2, rfl⟩
          go_wp2_with fail
          refine (cur_fail (HC'.out.drew q2) 263).mono ?_
          rintro e w3 ⟨rfl, hc, hg⟩
          have HC3 := Lib.hid hc
          have hg' : wr.grownBy w3 (some p) := ⟨hg.os, hg.tape, hg.output, hg.size, hg.block⟩
          have HG3 := Lib.hid (grown_trans HG.out hg')
          have HF : Hid ((s'.fail 263).er = 263) := by show _ = _; rw [St.fail_er, if_pos H1.out]
          have hce := cur_err HC3.out
          rw [HF.out] at hce
          have HCe3 := Lib.hid hce
          clear hc hg hg' hce
          go_wp2_with fail
          refine HCe3.out.mono ?_
          rintro e w4 ⟨rfl, rfl⟩
          go_wp2_with fail
          go_ret
          exact GotTakes.no (by rw [HDn.out]) HC3.out HG3.out (by rw [HDn.out]; exact HF.out) (by rw [HF.out]; decide)
        · rw [if_neg hbig] at hdn
          have HDn := Lib.hid hdn
          have e2 : ¬ (65528 : Int) < (s.left : Int) := by omega
          clear hdn hbig
          go_wp2_with fail
          refine HCe.out.mono ?_
          rintro e w2 ⟨rfl, rfl⟩
          go_wp2_with fail
          refine (cur_left HC'.out).mono ?_
          rintro e w2 ⟨rfl, q2, rfl⟩
          go_wp2_with fail
          have hce := cur_err (HC'.out.drew q2)
          rw [H1.out] at hce
          have HCe3 := Lib.hid hce
          clear hce
          refine HCe3.out.mono ?_
          rintro e w4 ⟨rfl, rfl⟩
          go_wp2_with fail
          go_ret
          exact ⟨_, s', rfl, by rw [HDn.out]; exact HO.out, HC'.out.drew q2, ⟨HG.out.os, HG.out.tape, HG.out.output, HG.out.size, HG.out.block⟩, by rw [HDn.out]; exact H1.out, fun _ => H2.out⟩
      · have hdn := decQ_done (HD.out.done (fun h => absurd h h1))
        rw [if_pos h1] at hdn
        have HDn := Lib.hid hdn
        have e1 : (s'.er == 0) = false := by simpa using h1
        have e3 : (s'.er != 0) = true := by simpa using h1
        have H1 := Lib.hid h1
        clear hdn h0 h1 hsr
        by_cases hbig : 65528 < s.left
        · have e2 : (65528 : Int) < (s.left : Int) := by omega
          clear hbig
          go_wp2_with fail
          refine (cur_err HC'.out).mono ?_
          rintro e w2 ⟨rfl, rfl⟩
          go_wp2_with fail
          refine (cur_fail HC'.out 263).mono ?_
          rintro e w3 ⟨rfl, hc, hg⟩
          rw [fail_busy H1.out] at hc
          have HC3 := Lib.hid hc
          have HG3 := Lib.hid (grown_trans HG.out hg)
          clear hc hg
          go_wp2_with fail
          refine (cur_err HC3.out).mono ?_
          rintro e w4 ⟨rfl, rfl⟩
          go_wp2_with fail
          go_ret
          exact GotTakes.no (by rw [HDn.out]) HC3.out HG3.out (by rw [HDn.out]) H1.out
        · have e2 : ¬ (65528 : Int) < (s.left : Int) := by omega
          clear hbig
          go_wp2_with fail
          refine (cur_err HC'.out).mono ?_
          rintro e w2 ⟨rfl, rfl⟩
          go_wp2_with fail
          refine (cur_err HC'.out).mono ?_
          rintro e w4 ⟨rfl, rfl⟩
          go_wp2_with fail
          go_ret
          exact GotTakes.no (by rw [HDn.out]) HC'.out HG.out (by rw [HDn.out]) H1.out

/-- What queue.Decode hands back. -/
def GotDec (bs : List Int) (w : World) (e : Ending) (w' : World) : Prop :=
  ∃ v, e = .returned (.tuple #[v, .int .i64 (decQ bs).2]) ∧ OutQ w.heap.size w' v (decQ bs).1 ∧ Below w.heap.size w w'
theorem que_decode {v : Value} {bs : List Int} {w : World} (h : Ints .u8 w v bs) (hl : bs.length ≤ 1000000000) : Calls Try.prog 22 #[v] w (GotDec bs w) := by
  have HN := Lib.hid (cur_new h hl 263 263)
  obtain ⟨av, capv, bb, ov, rfl, -⟩ := h.open
  clear h hl
  go_enter Try.func22, Try.ntmps22
  go_wp2_with fail
  refine HN.out.mono ?_
  rintro e w1 ⟨p, rfl, hc, hb⟩
  have HT := Lib.hid (que_Take hc (Nat.le_refl _) rfl (show (263 : Int) ≠ 0 by decide))
  have HB := Lib.hid hb
  have HF := Lib.hid hc.from
  clear hc hb
  go_wp2_with fail
  refine HT.out.mono ?_
  rintro e w2 ⟨v2, s2, rfl, ho, hc, hg, her, -⟩
  rw [show (St.fresh bs 263 263).rest = bs from rfl] at ho her
  have HO := Lib.hid (OutG.low QueO.kind ho HB.out.size)
  have HC := Lib.hid hc
  have HB2 := Lib.hid (HB.out.grown hg HB.out.size (fun k e => by injection e with e; have := HF.out; omega))
  obtain ⟨a2, cap2, rfl⟩ := OutG.slice ho
  have HEr := Lib.hid her
  clear ho hc hg her
  go_wp2_with fail
  refine (cur_err HC.out).mono ?_
  rintro e w3 ⟨rfl, rfl⟩
  go_wp2_with fail
  go_ret2
  unfold GotDec
  rw [HEr.out]
  exact ⟨_, rfl, HO.out, HB2.out⟩
end Go.Proofs.Ytoobcgakainelaa
