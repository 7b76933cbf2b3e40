/- The walks of the cursor's take, Bytes, Rest, Look and Sub. Conditions: the receiver is a cursor that New has made, its fault of short is one. -/
import Derived.Test.YtoobcgakainelaaCurA
namespace Go.Proofs.Ytoobcgakainelaa
open Go.RowKit

/-- 's[lo:hi:hi]'. -/
theorem slice_lhm {P : Program} {t e : TypeId} {z : Option Value} {bytes : Nat} (ht : P.underlying t = some (.slice e)) (hinfo : (P.info? e).map (fun i => (i.zero, i.size, i.bytes)) = some (z, 1, bytes))
    {k : IntKind} {w : World} {a : Option Addr} {cap : Nat} {zs : List Int} (h : Ints k w (.slice a zs.length cap) zs) (lo hi : Int) (l m : Nat) (hl : lo = l) (hm : hi = m) (h0 : l ≤ m) (h1 : m ≤ zs.length) :
    ∃ A, (∀ wx : World, (Instr.slice t (.slice a zs.length cap) (some (.int .i64 lo)) (some (.int .i64 hi)) (some (.int .i64 hi))).run P wx = .ok (.slice A (m - l) (m - l)) wx) ∧ Ints k w (.slice A (m - l) (m - l)) ((zs.take m).drop l) ∧ (∀ n c b, (Value.slice A n c).ownBlock = some b → (Value.slice a zs.length cap).ownBlock = some b) := by
  subst hl
  subst hm
  have he : P.elem t = e := by simp [Program.elem, ht]
  obtain ⟨a', cap', b, off, hee, h5, -⟩ := h.open
  injection hee with e1 e2 e3
  subst e3
  refine ⟨_, fun wx => ?_, cut_ints h l m m h0 h1 (Nat.le_refl _) (by omega), fun n c b hb => ?_⟩
  · rw [run_slice_lhm wx t a zs.length cap (by rw [he]; exact ht) .i64 .i64 .i64 l m m (by omega) (by omega) (by omega) (by omega), he, run_sizeOf hinfo]
    simp [Result.andThen, sliced]
  · cases a with
    | none => simp [Value.ownBlock] at hb
    | some x =>
      split at hb
      · exact hb
      · simp only [Option.map_some, Value.ownBlock, Option.some.injEq] at hb ⊢
        rw [← hb]; unfold Addr.add; split <;> rfl

theorem bytes_neg {s : St} {n : Int} (h : n < 0) : s.bytes n = (s.fail 10001, []) := by rw [St.bytes, if_pos h]
theorem bytes_busy {s : St} {n : Int} (h : 0 ≤ n) (h1 : s.er ≠ 0) : s.bytes n = (s, []) := by rw [St.bytes, if_neg (by omega), if_pos h1]
theorem bytes_short {s : St} {n : Int} (h : 0 ≤ n) (h1 : s.er = 0) (h2 : (s.left : Int) < n) : s.bytes n = (s.fail s.sh, []) := by rw [St.bytes, if_neg (by omega), if_neg (by simp [h1]), if_pos h2]
theorem bytes_fine {s : St} {n : Nat} (h1 : s.er = 0) (h2 : n ≤ s.left) : s.bytes n = ({ s with pos := s.pos + n }, s.rest.take n) := by
  rw [St.bytes, if_neg (by omega), if_neg (by simp [h1]), if_neg (by omega)]; simp
theorem fail_busy {s : St} (h : s.er ≠ 0) (e : Int) : s.fail e = s := by rw [St.fail, if_neg h]
theorem fail_first {s : St} (h : s.er = 0) (e : Int) : s.fail e = { s with er := e } := by rw [St.fail, if_pos h]

theorem Cur.apart {B : Nat × Nat} {w : World} {p : Nat} {s : St} {bv : Value} (h : Cur B w p s) (c : w.cell? ⟨p, 0, none⟩ = some bv) : bv.ownBlock ≠ some p := by
  obtain ⟨bv', h1, -, -, -, h5⟩ := h
  have : bv' = bv := by simpa [World.cell?, h1] using c
  subst this
  intro e
  exact (h5 p e).2.1 rfl

/-- What take hands back. -/
def Took (B : Nat × Nat) (w : World) (p : Nat) (s : St) (n : Int) (e : Ending) (w' : World) : Prop :=
  ∃ v, e = .returned (.tuple #[v, .bool (s.takes n)]) ∧ Ints .u8 w' v (s.bytes n).2 ∧ Cur B w' p (s.bytes n).1 ∧ w.grownBy w' (some p)

set_option maxRecDepth 100000
set_option maxHeartbeats 4000000

theorem cur_take {B : Nat × Nat} {p : Nat} {s : St} {w : World} (h : Cur B w p s) (hs : s.sh ≠ 0) (n : Int) (hn : (Lit.int .i64 n).wf = true) :
    Calls Try.prog 55 #[.pointer (some ⟨p, 0, none⟩), .int .i64 n] w (Took B w p s n) := by
  have HC := Lib.hid h
  by_cases h0 : n < 0
  · have HF := Lib.hid (cur_fail h 10001)
    have hse : (s.fail 10001).er ≠ 0 := by unfold St.fail; split <;> simp_all
    have e1 : ((s.fail 10001).er != 0) = true := by simpa using hse
    clear h hse
    have HS := Lib.hid hs
    clear hs
    go_enter Try.func55, Try.ntmps55
    go_wp2_with (first
      | (go_at_call 57; (with_reducible refine HF.out.mono ?_); rintro e1 w1 ⟨rfl, hc1, hg1⟩; have HC1 := Lib.hid hc1; have HG1 := Lib.hid hg1; clear hc1 hg1)
      | (go_at_call 28; (with_reducible refine (cur_err HC1.out).mono ?_); rintro e1 w2 ⟨rfl, rfl⟩))
    go_ret2
    have ht : s.takes n = false := by simp [St.takes]; omega
    refine ⟨_, by rw [ht]; rfl, ?_, ?_, HG1.out⟩
    · rw [bytes_neg h0]; exact Ints.nil _ _
    · rw [bytes_neg h0]; exact HC1.out
  · by_cases hl : (s.left : Int) < n
    · have hse : (s.fail s.sh).er ≠ 0 := by unfold St.fail; split <;> simp_all
      have e1 : ((s.fail s.sh).er != 0) = true := by simpa using hse
      obtain ⟨bv, er, her, hb, hp, c0, c1, c2, c3, c4, c5, fz⟩ := h.open
      clear hse h hb hp her c0 c1 c3 c4 c5 fz
      have HS := Lib.hid hs
      clear hs
      go_enter Try.func55, Try.ntmps55
      go_wp2_with (first
        | (go_at_call 29; (with_reducible refine (cur_left HC.out).mono ?_); rintro e1 w1 ⟨rfl, q, rfl⟩)
        | (go_at_call 58; (with_reducible refine (cur_none (HC.out.drew _)).mono ?_); rintro e1 w1 ⟨rfl, rfl⟩)
        | (go_at_call 57; (with_reducible refine (cur_fail (HC.out.drew _) _).mono ?_); rintro e1 w1 ⟨rfl, hc1, hg1⟩; have HC1 := Lib.hid hc1; have HG1 := Lib.hid hg1; clear hc1 hg1)
        | (go_at_call 28; (with_reducible refine (cur_err HC1.out).mono ?_); rintro e1 w2 ⟨rfl, rfl⟩))
      go_ret2
      have ht : s.takes n = false := by simp [St.takes]; omega
      have hb : s.bytes n = (s.fail s.sh, []) := by
        by_cases he : s.er = 0
        · exact bytes_short (by omega) he hl
        · rw [bytes_busy (by omega) he, fail_busy he]
      refine ⟨_, by rw [ht]; rfl, ?_, ?_, grown_trans (grown_draw (World.grownBy.refl w _) _) HG1.out⟩
      · rw [hb]; exact Ints.nil _ _
      · rw [hb]; exact HC1.out
    · by_cases he : s.er = 0
      · obtain ⟨m, rfl⟩ : ∃ m : Nat, n = m := ⟨n.toNat, by omega⟩
        obtain ⟨bv, er, her, hb, hp, c0, c1, c2, c3, c4, c5, fz⟩ := h.open
        obtain ⟨a, cap, b, off, rfl, -⟩ := hb.open
        have hm : s.pos + m ≤ s.bs.length := by have := hp.1; unfold St.left at hl; omega
        have hw : IntKind.i64.wrap ((s.pos : Int) + (m : Int)) = ((s.pos + m : Nat) : Int) := by rw [wrap_small (by omega) (by omega)]; simp
        obtain ⟨A, hsl, hcut, hAb⟩ := slice_lhm Try.underlying25 info_u8 hb (s.pos : Int) (IntKind.i64.wrap ((s.pos : Int) + (m : Int))) s.pos (s.pos + m) rfl hw (by omega) hm
        have HB := Lib.hid hcut
        have HAb : Hid (∀ n c, (Value.slice A n c).ownBlock ≠ some p) := fun n c e => h.apart c0 (hAb n c p e)
        clear hAb
        have HM := Lib.hid hm
        have HE := Lib.hid he
        have HP := Lib.hid hp
        have fz1 := fz 1
        have HW := Lib.hid hw
        have HSe := Lib.hid (cur_err (h.drew 0))
        clear h hb hp her c2 c3 c4 c5 fz hcut hw he hn hm hs
        go_enter Try.func55, Try.ntmps55
        go_wp2_with (first
          | (go_at_call 29; (with_reducible refine (cur_left HC.out).mono ?_); rintro e1 w1 ⟨rfl, q, rfl⟩)
          | (go_at_call 28; (with_reducible refine (cur_err (HC.out.drew _)).mono ?_); rintro e1 w2 ⟨rfl, rfl⟩; rw [HE.out])
          | go_quiet (fail))
        go_ret2
        have hbs := HB.out
        rw [List.drop_take, Nat.add_sub_cancel_left] at hbs
        have hleft : m ≤ s.left := by have := HM.out; simp only [St.left]; omega
        have ht : s.takes (m : Int) = true := by simp only [St.takes, HE.out]; simp; exact hleft
        refine ⟨.slice A m m, by rw [ht]; rfl, ?_, ?_, grown_trans (grown_draw (World.grownBy.refl w _) _) (grown_put _ p 1 _)⟩
        · rw [bytes_fine HE.out hleft]
          exact (hbs.below (below_drewN (Below.refl _ _) _)).grown (grown_put _ p 1 _) (fun b hb e => HAb.out m m (by rw [hb, e]))
        · rw [bytes_fine HE.out hleft]
          have hwb := HM.out
          have hwp := HP.out
          rw [show wrap64 ((s.pos : Int) + (m : Int)) = ((s.pos + m : Nat) : Int) by unfold wrap64; omega]
          exact (HC.out.drew _).setPos _ HM.out
      · have e1 : (s.er != 0) = true := by simpa using he
        have HE := Lib.hid he
        clear h hs he
        go_enter Try.func55, Try.ntmps55
        go_wp2_with (first
          | (go_at_call 29; (with_reducible refine (cur_left HC.out).mono ?_); rintro e1 w1 ⟨rfl, q, rfl⟩)
          | (go_at_call 28; (with_reducible refine (cur_err (HC.out.drew _)).mono ?_); rintro e1 w2 ⟨rfl, rfl⟩))
        go_ret2
        have ht : s.takes n = false := by simp [St.takes, HE.out]
        refine ⟨_, by rw [ht]; rfl, ?_, ?_, grown_draw (World.grownBy.refl _ _) _⟩
        · rw [bytes_busy (by omega) HE.out]; exact Ints.nil _ _
        · rw [bytes_busy (by omega) HE.out]; exact HC.out.drew _


theorem wf_i64 {n : Int} (h1 : -9223372036854775808 ≤ n) (h2 : n < 9223372036854775808) : (Lit.int .i64 n).wf = true := by
  simp [Lit.wf, IntKind.min, IntKind.max, IntKind.signed, IntKind.bits]; omega

/-- What a reading of bytes hands back. -/
def GotBytes (B : Nat × Nat) (w : World) (p : Nat) (s : St) (l : List Int) (e : Ending) (w' : World) : Prop :=
  ∃ v, e = .returned v ∧ w'.ownsRow w.heap.size 5 1 v l.length (l.map (Value.int .u8)) ∧ U8 l ∧ Cur B w' p s ∧ w.grownBy w' (some p)
theorem GotBytes.ints {B : Nat × Nat} {w w' : World} {p : Nat} {s : St} {l : List Int} {e : Ending} (h : GotBytes B w p s l e w') : ∃ v, e = .returned v ∧ Ints .u8 w' v l ∧ Cur B w' p s ∧ w.grownBy w' (some p) := by
  obtain ⟨v, h1, h2, h3, h4, h5⟩ := h
  exact ⟨v, h1, Ints.of_own h2 h3.wf, h4, h5⟩

theorem bytes_len {s : St} (n : Int) : (s.bytes n).2.length ≤ s.bs.length := by
  unfold St.bytes
  split
  · simp
  · split
    · simp
    · split
      · simp
      · simp [St.rest]; omega

theorem cur_bytes {B : Nat × Nat} {p : Nat} {s : St} {w : World} (h : Cur B w p s) (hs : s.sh ≠ 0) (n : Int) (hn : (Lit.int .i64 n).wf = true) :
    Calls Try.prog 26 #[.pointer (some ⟨p, 0, none⟩), .int .i64 n] w (GotBytes B w p (s.bytes n).1 (s.bytes n).2) := by
  have HT := Lib.hid (cur_take h hs n hn)
  have HL : Hid ((s.bytes n).2.length ≤ 1000000000) := by obtain ⟨bv, -, -, h3, -⟩ := h; exact Nat.le_trans (bytes_len n) h3.2
  have HLt := Lib.hid h.lt
  clear h hs hn
  go_enter Try.func26, Try.ntmps26
  go_wp2_with (first
    | (go_at_call 55; (with_reducible refine HT.out.mono ?_); rintro e1 w1 ⟨v1, rfl, hv1, hc1, hg1⟩; have HV1 := Lib.hid hv1; have HC1 := Lib.hid hc1; have HG1 := Lib.hid hg1; clear hv1 hc1 hg1)
    | (go_at_call 54; (with_reducible refine (bytes_clone HV1.out HL.out).mono ?_); rintro e1 w2 ⟨v2, rfl, ho2, hb2⟩; have HO2 := Lib.hid ho2; have HB2 := Lib.hid hb2; clear ho2 hb2))
  go_ret
  exact ⟨_, rfl, own_base HO2.out HG1.out.size, HV1.out.u8, HC1.out.below HB2.out, grown_trans HG1.out (grown_of_below HB2.out _)⟩

theorem left_wf {B : Nat × Nat} {p : Nat} {s : St} {w : World} (h : Cur B w p s) : (Lit.int .i64 (s.left : Int)).wf = true := by
  obtain ⟨bv, -, -, h3, -⟩ := h
  have : s.left ≤ 1000000000 := by unfold St.left; omega
  exact wf_i64 (by omega) (by omega)

theorem cur_rest {B : Nat × Nat} {p : Nat} {s : St} {w : World} (h : Cur B w p s) (hs : s.sh ≠ 0) :
    Calls Try.prog 88 #[.pointer (some ⟨p, 0, none⟩)] w (GotBytes B w p (s.bytes s.left).1 (s.bytes s.left).2) := by
  have HT := fun q => cur_bytes (h.drew q) hs s.left (left_wf h)
  have H1 := Lib.hid HT
  have H2 := Lib.hid (cur_left h)
  clear h hs HT
  go_enter Try.func88, Try.ntmps88
  go_wp2_with (first
    | (go_at_call 29; (with_reducible refine H2.out.mono ?_); rintro e1 w1 ⟨rfl, q, rfl⟩)
    | (go_at_call 26; (with_reducible refine (H1.out _).mono ?_); rintro e1 w2 ⟨v2, rfl, ho2, hu2, hc2, hg2⟩; have HO2 := Lib.hid ho2; have HU2 := Lib.hid hu2; have HC2 := Lib.hid hc2; have HG2 := Lib.hid hg2; clear ho2 hu2 hc2 hg2))
  go_ret
  exact ⟨_, rfl, HO2.out, HU2.out, HC2.out, grown_trans (grown_draw (World.grownBy.refl w _) _) HG2.out⟩

/-- What Look tells. -/
def St.look (s : St) : List Int := if s.er ≠ 0 then [] else s.rest

/-- What Sub hands back: none, or a cursor of its own, made in a world w1 in which the first one had read on. -/
def GotSub (B : Nat × Nat) (w : World) (p : Nat) (s : St) (n sh od : Int) (e : Ending) (w' : World) : Prop :=
  (s.takes n = false ∧ e = .returned (.pointer none) ∧ Cur B w' p (s.bytes n).1 ∧ w.grownBy w' (some p)) ∨
  (s.takes n = true ∧ ∃ w1 q, e = .returned (.pointer (some ⟨q, 0, none⟩)) ∧ Cur B w1 p (s.bytes n).1 ∧ w.grownBy w1 (some p) ∧ Below w1.heap.size w1 w' ∧ Cur (w1.heap.size, w'.heap.size) w' q (St.fresh (s.bytes n).2 sh od))

end Go.Proofs.Ytoobcgakainelaa
