/- Rows of numbers as bytes, in plain Lean: what a row is, its size and count, putting, getting, and that each undoes the other. Conditions: those of each lemma. The cursor, in plain Lean: what it holds, and what each reading does to it. Things that tell their length, in plain Lean: by a shape, the first one, all of them, and them as bytes. Conditions: none. Things that tell their length, in plain Lean: what is joined is cut, what is cut is joined. Conditions: those of each lemma. -/
import Derived.Below
namespace Go.Proofs.YtcebcncpbedkmaaGreat

/-- A width that may be. -/
def okW (n : Int) : Bool := decide (n ≠ 0) && decide (n ≤ 8) && decide (-64 ≤ n)
/-- Are widths a row? -/
def RightS (w : List Int) : Bool := decide (w.length ≤ 64) && w.all okW

def sizeL : List Int → Nat
  | [] => 0
  | n :: w => n.natAbs + sizeL w
def cntL : List Int → Nat
  | [] => 0
  | n :: w => (if 0 < n then 1 else 0) + cntL w
def sizeS (w : List Int) : Nat := if RightS w then sizeL w else 0
def countS (w : List Int) : Nat := if RightS w then cntL w else 0

/-- A number's k bytes, the highest first. -/
def be : Nat → Int → List Int
  | 0, _ => []
  | k + 1, n => (n / 256 ^ k % 256) :: be k n
/-- The number that bytes are. -/
def valL (b : List Int) : Int := b.foldl (fun a c => a * 256 + c) 0
/-- Has x room in n bytes? -/
def fitsW (x n : Int) : Bool := decide (8 ≤ n) || decide (x < 256 ^ n.toNat)

def putL : List Int → List Int → Option (List Int)
  | [], _ => some []
  | n :: w, xs =>
    if n < 0 then (putL w xs).map (List.replicate n.natAbs 0 ++ ·)
    else match xs with
      | [] => none
      | x :: xs => if fitsW x n then (putL w xs).map (be n.natAbs x ++ ·) else none
def putS (w xs : List Int) : Option (List Int) := if RightS w && decide (cntL w = xs.length) then putL w xs else none

/-- 1: Short; 2: Odd. -/
def getL : List Int → List Int → Except Int (List Int)
  | [], _ => .ok []
  | n :: w, b =>
    if b.length < n.natAbs then .error 1
    else if 0 < n then (getL w (b.drop n.natAbs)).map (valL (b.take n.natAbs) :: ·)
    else if (b.take n.natAbs).all (· == 0) then getL w (b.drop n.natAbs) else .error 2
def getS (w b : List Int) : List Int × Int :=
  if RightS w then (match getL w b with | .ok l => (l, 0) | .error e => ([], e)) else ([], 2)

/-! ### small lemmas -/
theorem okW_iff {n : Int} : okW n = true ↔ n ≠ 0 ∧ n ≤ 8 ∧ -64 ≤ n := by
  simp [okW, and_assoc]

theorem take_snoc {zs : List Int} {k : Nat} (h : k < zs.length) : zs.take (k + 1) = zs.take k ++ [zs.getD k 0] := by
  rw [List.take_succ_eq_append_getElem h]; simp [List.getD, h]

theorem drop_cons {zs : List Int} {k : Nat} (h : k < zs.length) : zs.drop k = zs.getD k 0 :: zs.drop (k + 1) := by
  rw [List.drop_eq_getElem_cons h]; simp [List.getD, h]

theorem getD_mem {zs : List Int} {k : Nat} (h : k < zs.length) : zs.getD k 0 ∈ zs := by
  simp [List.getD, h]

theorem sizeL_append (a b : List Int) : sizeL (a ++ b) = sizeL a + sizeL b := by
  induction a with
  | nil => simp [sizeL]
  | cons x a ih => simp [sizeL, ih]; omega
theorem cntL_append (a b : List Int) : cntL (a ++ b) = cntL a + cntL b := by
  induction a with
  | nil => simp [cntL]
  | cons x a ih => simp [cntL, ih]; omega
theorem sizeL_snoc (a : List Int) (x : Int) : sizeL (a ++ [x]) = sizeL a + x.natAbs := by simp [sizeL_append, sizeL]
theorem cntL_snoc (a : List Int) (x : Int) : cntL (a ++ [x]) = cntL a + (if 0 < x then 1 else 0) := by simp [cntL_append, cntL]
theorem cntL_le (a : List Int) : cntL a ≤ a.length := by
  induction a with
  | nil => simp [cntL]
  | cons x a ih => simp only [cntL, List.length_cons]; split <;> omega
theorem sizeL_le {a : List Int} (h : a.all okW = true) : sizeL a ≤ 64 * a.length := by
  induction a with
  | nil => simp [sizeL]
  | cons x a ih =>
    simp only [List.all_cons, Bool.and_eq_true] at h
    have := okW_iff.1 h.1
    have := ih h.2
    simp only [sizeL, List.length_cons]; omega
theorem right_len {w : List Int} (h : RightS w = true) : w.length ≤ 64 := by simp [RightS] at h; exact h.1
theorem right_all {w : List Int} (h : RightS w = true) : w.all okW = true := by simp only [RightS, Bool.and_eq_true] at h; exact h.2
theorem all_get {w : List Int} (h : w.all okW = true) {k : Nat} (hk : k < w.length) : okW (w.getD k 0) = true := List.all_eq_true.1 h _ (getD_mem hk)
theorem all_take {w : List Int} (h : w.all okW = true) (k : Nat) : (w.take k).all okW = true := List.all_eq_true.2 fun x hx => List.all_eq_true.1 h x (List.mem_of_mem_take hx)
theorem sizeS_le (w : List Int) : sizeS w ≤ 4096 := by
  unfold sizeS; split
  · rename_i h; have := sizeL_le (right_all h); have := right_len h; omega
  · omega

/-! ### numbers and bytes -/
theorem be_length (k : Nat) (n : Int) : (be k n).length = k := by
  induction k with
  | zero => rfl
  | succ k ih => simp [be, ih]
theorem pow256_pos (k : Nat) : 0 < (256 : Int) ^ k := Int.pow_pos (by omega)
theorem be_byte (k : Nat) (n : Int) : ∀ z ∈ be k n, 0 ≤ z ∧ z < 256 := by
  induction k with
  | zero => intro z hz; simp [be] at hz
  | succ k ih =>
    intro z hz
    simp only [be, List.mem_cons] at hz
    rcases hz with rfl | hz
    · omega
    · exact ih z hz
theorem be_getD (k : Nat) (n : Int) (i : Nat) (hi : i < k) : (be k n).getD i 0 = n / 256 ^ (k - 1 - i) % 256 := by
  induction k generalizing i with
  | zero => omega
  | succ k ih =>
    cases i with
    | zero => simp [be]
    | succ i =>
      have := ih i (by omega)
      simp only [be, List.getD_cons_succ]
      rw [this]
      congr 3
      omega
theorem be_zero (k : Nat) : be k 0 = List.replicate k 0 := by
  induction k with
  | zero => rfl
  | succ k ih => simp [be, ih, List.replicate_succ]

theorem foldl_val (b : List Int) (a : Int) : b.foldl (fun a c => a * 256 + c) a = a * 256 ^ b.length + valL b := by
  induction b generalizing a with
  | nil => simp [valL]
  | cons x b ih =>
    have h1 := ih (a * 256 + x)
    have h2 := ih (0 * 256 + x)
    simp only [valL, List.foldl_cons] at h1 h2 ⊢
    rw [h1, h2, List.length_cons, Int.pow_succ]
    simp only [Int.zero_mul, Int.zero_add]
    rw [Int.add_mul, Int.mul_assoc, Int.mul_comm 256, Int.add_assoc]
theorem valL_nil : valL [] = 0 := rfl
theorem valL_cons (x : Int) (b : List Int) : valL (x :: b) = x * 256 ^ b.length + valL b := by
  have := foldl_val b (0 * 256 + x)
  simpa [valL] using this
theorem valL_snoc (b : List Int) (x : Int) : valL (b ++ [x]) = valL b * 256 + x := by simp [valL]

theorem valL_bd {b : List Int} (h : ∀ z ∈ b, 0 ≤ z ∧ z < 256) : 0 ≤ valL b ∧ valL b < 256 ^ b.length := by
  induction b with
  | nil => simp [valL]
  | cons x b ih =>
    have h1 := ih fun z hz => h z (List.mem_cons_of_mem _ hz)
    have h2 := h x (List.mem_cons_self ..)
    have hp := pow256_pos b.length
    rw [valL_cons, List.length_cons, Int.pow_succ]
    constructor
    · exact Int.add_nonneg (Int.mul_nonneg h2.1 (by omega)) h1.1
    · have : x * 256 ^ b.length ≤ 255 * 256 ^ b.length := Int.mul_le_mul_of_nonneg_right (by omega) (by omega)
      omega

theorem emod_split (n p : Int) (hp : 0 < p) : n % (p * 256) = (n / p % 256) * p + n % p := by
  have h1 := Int.emod_add_mul_ediv n p
  have h2 := Int.emod_add_mul_ediv (n / p) 256
  have h3 : n = (n / p / 256) * (p * 256) + ((n / p % 256) * p + n % p) := by
    have e : n / p = n / p % 256 + 256 * (n / p / 256) := h2.symm
    have e2 : p * (n / p) = p * (n / p % 256) + p * (256 * (n / p / 256)) := by rw [← Int.mul_add, ← e]
    have e3 : (n / p / 256) * (p * 256) = p * (256 * (n / p / 256)) := by
      rw [Int.mul_comm, Int.mul_assoc]
    have e4 : (n / p % 256) * p = p * (n / p % 256) := Int.mul_comm _ _
    omega
  have b1 := Int.emod_nonneg (n / p) (show (256 : Int) ≠ 0 by omega)
  have b2 := Int.emod_lt_of_pos (n / p) (show (0 : Int) < 256 by omega)
  have b3 := Int.emod_nonneg n (show p ≠ 0 by omega)
  have b4 := Int.emod_lt_of_pos n hp
  have lo : 0 ≤ (n / p % 256) * p + n % p := Int.add_nonneg (Int.mul_nonneg b1 (by omega)) b3
  have hi : (n / p % 256) * p + n % p < p * 256 := by
    have : (n / p % 256) * p ≤ 255 * p := Int.mul_le_mul_of_nonneg_right (by omega) (by omega)
    omega
  generalize hr : (n / p % 256) * p + n % p = r at h3 lo hi ⊢
  rw [h3, Int.add_comm, Int.add_mul_emod_self_right]
  exact Int.emod_eq_of_lt lo hi

theorem valL_be (k : Nat) (n : Int) : valL (be k n) = n % 256 ^ k := by
  induction k with
  | zero => simp [be, valL, Int.emod_one]
  | succ k ih =>
    simp only [be]
    rw [valL_cons, be_length, ih, Int.pow_succ, emod_split _ _ (pow256_pos k)]

theorem be_valL {b : List Int} (h : ∀ z ∈ b, 0 ≤ z ∧ z < 256) (a : Int) : be b.length (a * 256 ^ b.length + valL b) = b := by
  induction b generalizing a with
  | nil => rfl
  | cons x b ih =>
    have hb : ∀ z ∈ b, 0 ≤ z ∧ z < 256 := fun z hz => h z (List.mem_cons_of_mem _ hz)
    have hx := h x (List.mem_cons_self ..)
    have hv := valL_bd hb
    have hp := pow256_pos b.length
    have e : a * 256 ^ (x :: b).length + valL (x :: b) = (a * 256 + x) * 256 ^ b.length + valL b := by
      rw [valL_cons, List.length_cons, Int.pow_succ, Int.add_mul, ← Int.add_assoc, Int.mul_assoc, Int.mul_comm 256]
    rw [e]
    simp only [List.length_cons, be]
    rw [ih hb]
    congr 1
    have d : ((a * 256 + x) * 256 ^ b.length + valL b) / 256 ^ b.length = a * 256 + x := by
      rw [Int.add_comm, Int.add_mul_ediv_right _ _ (by omega), Int.ediv_eq_zero_of_lt hv.1 hv.2, Int.zero_add]
    rw [d]
    omega

theorem be_valL0 {b : List Int} (h : ∀ z ∈ b, 0 ≤ z ∧ z < 256) : be b.length (valL b) = b := by
  have := be_valL h 0
  simpa using this

/-! ### put and get -/
theorem putL_len {w xs b : List Int} (h : putL w xs = some b) : b.length = sizeL w := by
  induction w generalizing xs b with
  | nil => simp [putL] at h; subst h; rfl
  | cons n w ih =>
    simp only [putL] at h
    split at h
    · simp only [Option.map_eq_some_iff] at h
      obtain ⟨c, hc, rfl⟩ := h
      simp [sizeL, ih hc]
    · cases xs with
      | nil => simp at h
      | cons x xs =>
        simp only at h
        split at h
        · simp only [Option.map_eq_some_iff] at h
          obtain ⟨c, hc, rfl⟩ := h
          simp [sizeL, ih hc, be_length]
        · simp at h

theorem putL_byte {w xs b : List Int} (h : putL w xs = some b) : ∀ z ∈ b, 0 ≤ z ∧ z < 256 := by
  induction w generalizing xs b with
  | nil => simp [putL] at h; subst h; simp
  | cons n w ih =>
    simp only [putL] at h
    split at h
    · simp only [Option.map_eq_some_iff] at h
      obtain ⟨c, hc, rfl⟩ := h
      intro z hz
      rcases List.mem_append.1 hz with hz | hz
      · have := List.eq_of_mem_replicate hz; omega
      · exact ih hc z hz
    · cases xs with
      | nil => simp at h
      | cons x xs =>
        simp only at h
        split at h
        · simp only [Option.map_eq_some_iff] at h
          obtain ⟨c, hc, rfl⟩ := h
          intro z hz
          rcases List.mem_append.1 hz with hz | hz
          · exact be_byte _ _ z hz
          · exact ih hc z hz
        · simp at h

/-- Numbers of 64 bits. -/
def U64 (xs : List Int) : Prop := ∀ x ∈ xs, 0 ≤ x ∧ x < 18446744073709551616
def U8 (xs : List Int) : Prop := ∀ x ∈ xs, 0 ≤ x ∧ x < 256

theorem fits_lt {x n : Int} (h : fitsW x n = true) (h0 : 0 < n) (h8 : n ≤ 8) (hx : x < 18446744073709551616) : x < 256 ^ n.natAbs := by
  have e : n.toNat = n.natAbs := by omega
  simp only [fitsW, Bool.or_eq_true, decide_eq_true_eq] at h
  rcases h with h | h
  · obtain rfl : n = 8 := by omega
    exact hx
  · rwa [e] at h

theorem get_put {w xs b : List Int} (more : List Int) (hw : w.all okW = true) (hx : U64 xs) (hc : cntL w = xs.length) (h : putL w xs = some b) :
    getL w (b ++ more) = .ok xs := by
  induction w generalizing xs b with
  | nil =>
    simp [putL] at h; subst h
    have : xs = [] := List.eq_nil_of_length_eq_zero (by simpa [cntL] using hc.symm)
    subst this; rfl
  | cons n w ih =>
    simp only [List.all_cons, Bool.and_eq_true] at hw
    have hn := okW_iff.1 hw.1
    simp only [putL] at h
    split at h
    · rename_i hneg
      simp only [Option.map_eq_some_iff] at h
      obtain ⟨c, hcc, rfl⟩ := h
      have hc' : cntL w = xs.length := by simpa [cntL, show ¬ (0 < n) by omega] using hc
      simp only [getL]
      rw [if_neg (by simp), if_neg (by omega)]
      rw [if_pos (by
        rw [List.append_assoc, List.take_left' (by simp)]
        simp)]
      rw [List.append_assoc, List.drop_left' (by simp)]
      exact ih hw.2 hx hc' hcc
    · rename_i hneg
      cases xs with
      | nil => simp at h
      | cons x xs =>
        simp only at h
        split at h
        · rename_i hf
          simp only [Option.map_eq_some_iff] at h
          obtain ⟨c, hcc, rfl⟩ := h
          have hpos : 0 < n := by omega
          have hc' : cntL w = xs.length := by simp [cntL, hpos] at hc; omega
          have hxx := hx x (List.mem_cons_self ..)
          simp only [getL]
          rw [if_neg (by simp [be_length]), if_pos hpos]
          rw [List.append_assoc, List.drop_left' (be_length _ _), List.take_left' (be_length _ _)]
          rw [ih hw.2 (fun z hz => hx z (List.mem_cons_of_mem _ hz)) hc' hcc, valL_be, Int.emod_eq_of_lt hxx.1 (fits_lt hf hpos hn.2.1 hxx.2)]
          rfl
        · simp at h

theorem get_less {w xs b : List Int} (hw : w.all okW = true) (h : putL w xs = some b) (k : Nat) (hk : k < b.length) : getL w (b.take k) = .error 1 := by
  induction w generalizing xs b k with
  | nil => simp [putL] at h; subst h; simp at hk
  | cons n w ih =>
    simp only [List.all_cons, Bool.and_eq_true] at hw
    have hn := okW_iff.1 hw.1
    have hlen : (b.take k).length = k := by simp; omega
    simp only [getL]
    rw [hlen]
    by_cases hs : k < n.natAbs
    · rw [if_pos hs]
    · rw [if_neg hs]
      simp only [putL] at h
      split at h
      · rename_i hneg
        simp only [Option.map_eq_some_iff] at h
        obtain ⟨c, hcc, rfl⟩ := h
        have e1 : (List.replicate n.natAbs (0 : Int) ++ c).take k = List.replicate n.natAbs 0 ++ c.take (k - n.natAbs) := by
          rw [List.take_append, List.take_of_length_le (by simp; omega)]; simp
        rw [if_neg (by omega), e1, List.take_left' (by simp), List.drop_left' (by simp), if_pos (by simp)]
        exact ih hw.2 hcc _ (by simp at hk; omega)
      · cases xs with
        | nil => simp at h
        | cons x xs =>
          simp only at h
          split at h
          · simp only [Option.map_eq_some_iff] at h
            obtain ⟨c, hcc, rfl⟩ := h
            have e1 : (be n.natAbs x ++ c).take k = be n.natAbs x ++ c.take (k - n.natAbs) := by
              rw [List.take_append, List.take_of_length_le (by rw [be_length]; omega), be_length]
            rw [if_pos (by omega), e1, List.take_left' (be_length _ _), List.drop_left' (be_length _ _)]
            rw [ih hw.2 hcc _ (by simp [be_length] at hk; omega)]
            rfl
          · simp at h

theorem put_get {w b xs : List Int} (hw : w.all okW = true) (hb : U8 b) (h : getL w b = .ok xs) :
    sizeL w ≤ b.length ∧ cntL w = xs.length ∧ putL w xs = some (b.take (sizeL w)) ∧ U64 xs := by
  induction w generalizing b xs with
  | nil => simp [getL] at h; subst h; simp [sizeL, cntL, putL, U64]
  | cons n w ih =>
    simp only [List.all_cons, Bool.and_eq_true] at hw
    have hn := okW_iff.1 hw.1
    have hbd : U8 (b.drop n.natAbs) := fun z hz => hb z (List.mem_of_mem_drop hz)
    have hbt : U8 (b.take n.natAbs) := fun z hz => hb z (List.mem_of_mem_take hz)
    simp only [getL] at h
    split at h
    · simp at h
    · rename_i hlen
      have htl : (b.take n.natAbs).length = n.natAbs := by simp; omega
      have hsplit : b.take (n.natAbs + sizeL w) = b.take n.natAbs ++ (b.drop n.natAbs).take (sizeL w) := List.take_add
      split at h
      · rename_i hpos
        cases hg : getL w (b.drop n.natAbs) with
        | error e => rw [hg] at h; simp [Except.map] at h
        | ok ys =>
          rw [hg] at h
          simp only [Except.map, Except.ok.injEq] at h
          subst h
          obtain ⟨h1, h2, h3, h4⟩ := ih hw.2 hbd hg
          have hv := valL_bd hbt
          rw [htl] at hv
          refine ⟨by simp [sizeL] at h1 ⊢; omega, by simp [cntL, hpos, h2]; omega, ?_, ?_⟩
          · simp only [putL]
            rw [if_neg (by omega)]
            have hf : fitsW (valL (b.take n.natAbs)) n = true := by
              simp only [fitsW, Bool.or_eq_true, decide_eq_true_eq]
              right
              have e : n.toNat = n.natAbs := by omega
              rw [e]; exact hv.2
            simp only [hf, if_true, h3, Option.map_some, sizeL, hsplit]
            have e := be_valL0 hbt
            rw [htl] at e
            rw [e]
          · intro z hz
            simp only [List.mem_cons] at hz
            rcases hz with rfl | hz
            · refine ⟨hv.1, ?_⟩
              have h8 : n.natAbs ≤ 8 := by omega
              have : (256 : Int) ^ n.natAbs ≤ 256 ^ 8 := by
                have := Nat.pow_le_pow_right (n := 256) (by omega) h8
                have h' : ((256 ^ n.natAbs : Nat) : Int) ≤ ((256 ^ 8 : Nat) : Int) := Int.ofNat_le.2 this
                simpa [Int.natCast_pow] using h'
              have e8 : (256 : Int) ^ 8 = 18446744073709551616 := by decide
              omega
            · exact h4 z hz
      · rename_i hpos
        split at h
        · rename_i hz
          obtain ⟨h1, h2, h3, h4⟩ := ih hw.2 hbd h
          refine ⟨by simp [sizeL] at h1 ⊢; omega, by simp [cntL, hpos, h2], ?_, h4⟩
          simp only [putL]
          rw [if_pos (by omega), h3]
          simp only [Option.map_some, sizeL, hsplit]
          congr 2
          symm
          rw [List.eq_replicate_iff]
          exact ⟨htl, fun z hz' => by simpa using List.all_eq_true.1 hz z hz'⟩
        · simp at h

end Go.Proofs.YtcebcncpbedkmaaGreat
namespace Go.Proofs.YtcebcncpbedkmaaGreat

/-- A cursor: its bytes, how many were read, the faults of short and of odd, the fault. -/
structure St where
  bs : List Int
  pos : Nat
  sh : Int
  od : Int
  er : Int

def St.fresh (bs : List Int) (sh od : Int) : St := ⟨bs, 0, sh, od, 0⟩
def St.fail (s : St) (e : Int) : St := if s.er = 0 then { s with er := e } else s
def St.left (s : St) : Nat := s.bs.length - s.pos
def St.rest (s : St) : List Int := s.bs.drop s.pos
def St.row (s : St) (ws : List Int) : St × List Int :=
  if s.er ≠ 0 then (s, [])
  else if (getS ws s.rest).2 = 1 then (s.fail s.sh, [])
  else if (getS ws s.rest).2 = 2 then (s.fail s.od, [])
  else ({ s with pos := s.pos + sizeS ws }, (getS ws s.rest).1)
def St.num (s : St) (width : Int) : St × Int :=
  if width < 1 ∨ 8 < width then (s.fail 10001, 0)
  else ((s.row [width]).1, (s.row [width]).2.getD 0 0)
def St.bytes (s : St) (n : Int) : St × List Int :=
  if n < 0 then (s.fail 10001, [])
  else if s.er ≠ 0 then (s, [])
  else if (s.left : Int) < n then (s.fail s.sh, [])
  else ({ s with pos := s.pos + n.toNat }, s.rest.take n.toNat)
/-- Were the next bytes taken? -/
def St.takes (s : St) (n : Int) : Bool := decide (0 ≤ n) && decide (s.er = 0) && decide (n ≤ (s.left : Int))

/-- What is always so of a cursor. -/
def St.ok (s : St) : Prop := s.pos ≤ s.bs.length ∧ U8 s.bs

theorem St.ok_fail {s : St} (h : s.ok) (e : Int) : (s.fail e).ok := by
  unfold St.fail; split
  · exact h
  · exact h

end Go.Proofs.YtcebcncpbedkmaaGreat
namespace Go.Proofs.YtcebcncpbedkmaaGreat

/-- A shape. -/
structure Sh where
  least : Int
  step : Int
  pad : Bool
  bad : Int
  odd : Int

def Sh.may (s : Sh) : Bool := decide (4 ≤ s.least) && decide (s.least ≤ 60000) && decide (1 ≤ s.step) && decide (s.step ≤ 64) && decide (s.bad ≠ 0) && decide (s.odd ≠ 0)
/-- How many zeros stand behind n bytes. -/
def Sh.zeros (s : Sh) (n : Nat) : Nat := if s.pad then (s.step.toNat - n % s.step.toNat) % s.step.toNat else 0
/-- May a thing have n bytes? -/
def Sh.fits (s : Sh) (n : Nat) : Bool := decide (s.least.toNat ≤ n) && (s.pad || decide (n % s.step.toNat = 0))
/-- The length that is told. -/
def told (bs : List Int) : Nat := (valL ((bs.drop 2).take 2)).toNat

/-- The first thing, its bytes, the error. -/
def Sh.one (s : Sh) (bs : List Int) : (Int × List Int) × Nat × Int :=
  if s.may = false then ((0, []), 0, 10001)
  else if bs.length < 4 then ((0, []), 0, s.bad)
  else if s.fits (told bs) = false ∨ bs.length < told bs + s.zeros (told bs) then ((0, []), 0, s.bad)
  else if ((bs.drop (told bs)).take (s.zeros (told bs))).all (· == 0) = false then ((0, []), 0, s.odd)
  else ((valL (bs.take 2), (bs.take (told bs)).drop 4), told bs + s.zeros (told bs), 0)

/-- All of them, in so many steps, behind some. -/
def Sh.cutA (s : Sh) : Nat → List (Int × List Int) → List Int → List (Int × List Int) × Int
  | 0, acc, _ => (acc, 0)
  | f + 1, acc, bs => if bs.length = 0 then (acc, 0) else if (s.one bs).2.2 ≠ 0 then ([], (s.one bs).2.2) else s.cutA f (acc ++ [(s.one bs).1]) (bs.drop (s.one bs).2.1)
def Sh.cut (s : Sh) (bs : List Int) : List (Int × List Int) × Int := if s.may then s.cutA bs.length [] bs else ([], 10001)

/-- May a thing be written? -/
def Sh.good (s : Sh) (x : Int × List Int) : Bool := decide (0 ≤ x.1) && decide (x.1 ≤ 65535) && decide (4 + x.2.length ≤ 65535) && s.fits (4 + x.2.length)
/-- A thing's bytes. -/
def Sh.thing (s : Sh) (x : Int × List Int) : List Int := be 2 x.1 ++ (be 2 (4 + x.2.length : Nat) ++ (x.2 ++ List.replicate (s.zeros (4 + x.2.length)) 0))
def Sh.all (s : Sh) (l : List (Int × List Int)) : List Int := (l.map s.thing).flatten
def Sh.join (s : Sh) (l : List (Int × List Int)) : List Int × Int := if s.may && l.all s.good then (s.all l, 0) else ([], 10001)

theorem Sh.may_iff {s : Sh} : s.may = true ↔ 4 ≤ s.least ∧ s.least ≤ 60000 ∧ 1 ≤ s.step ∧ s.step ≤ 64 ∧ s.bad ≠ 0 ∧ s.odd ≠ 0 := by
  simp [Sh.may, and_assoc]

theorem told_lt {bs : List Int} (hb : U8 bs) : told bs < 65536 := by
  have h := valL_bd (b := (bs.drop 2).take 2) (fun z hz => hb z (List.mem_of_mem_drop (List.mem_of_mem_take hz)))
  have hl : ((bs.drop 2).take 2).length ≤ 2 := by simp; omega
  have h3 : (256 : Int) ^ ((bs.drop 2).take 2).length ≤ 256 ^ 2 := by
    have := Nat.pow_le_pow_right (n := 256) (by omega) hl
    have h' : ((256 ^ ((bs.drop 2).take 2).length : Nat) : Int) ≤ ((256 ^ 2 : Nat) : Int) := Int.ofNat_le.2 this
    simpa [Int.natCast_pow] using h'
  unfold told
  have : (256 : Int) ^ 2 = 65536 := by decide
  omega
theorem told_eq {bs : List Int} (hb : U8 bs) : valL ((bs.drop 2).take 2) = (told bs : Int) := by
  have h := valL_bd (b := (bs.drop 2).take 2) (fun z hz => hb z (List.mem_of_mem_drop (List.mem_of_mem_take hz)))
  unfold told
  omega

theorem Sh.zeros_lt {s : Sh} (h : s.may = true) (n : Nat) : s.zeros n < 64 := by
  have := Sh.may_iff.1 h
  unfold Sh.zeros
  split
  · have := Nat.mod_lt (s.step.toNat - n % s.step.toNat) (show 0 < s.step.toNat by omega)
    omega
  · omega

theorem Sh.one_ok {s : Sh} {bs : List Int} (h : (s.one bs).2.2 = 0) : s.may = true ∧ 4 ≤ (s.one bs).2.1 ∧ (s.one bs).2.1 ≤ bs.length := by
  unfold Sh.one at h ⊢
  split
  · rename_i h1; rw [if_pos h1] at h; simp at h
  · rename_i h1
    rw [if_neg h1] at h
    have hm : s.may = true := by simpa using h1
    have hm' := Sh.may_iff.1 hm
    split
    · rename_i h2; rw [if_pos h2] at h; exact absurd h hm'.2.2.2.2.1
    · rename_i h2
      rw [if_neg h2] at h
      split
      · rename_i h3; rw [if_pos h3] at h; exact absurd h hm'.2.2.2.2.1
      · rename_i h3
        rw [if_neg h3] at h
        split
        · rename_i h4; rw [if_pos h4] at h; exact absurd h hm'.2.2.2.2.2
        · refine ⟨hm, ?_, ?_⟩
          · show 4 ≤ told bs + _
            have : s.fits (told bs) = true := by
              cases hf : s.fits (told bs) with
              | true => rfl
              | false => exact absurd (.inl hf) h3
            simp only [Sh.fits, Bool.and_eq_true, decide_eq_true_eq] at this
            omega
          · show told bs + _ ≤ _
            have : ¬ bs.length < told bs + s.zeros (told bs) := fun h => h3 (.inr h)
            omega

/-- More steps than bytes make no difference. -/
theorem Sh.cutA_fuel {s : Sh} : ∀ (f g : Nat) (acc : List (Int × List Int)) (bs : List Int), bs.length ≤ f → bs.length ≤ g → s.cutA f acc bs = s.cutA g acc bs := by
  intro f
  induction f with
  | zero =>
    intro g acc bs hf hg
    cases g with
    | zero => rfl
    | succ g => simp only [Sh.cutA]; rw [if_pos (by omega)]
  | succ f ih =>
    intro g acc bs hf hg
    cases g with
    | zero => simp only [Sh.cutA]; rw [if_pos (by omega)]
    | succ g =>
      simp only [Sh.cutA]
      split
      · rfl
      · split
        · rfl
        · rename_i h1 h2
          have h3 : (s.one bs).2.2 = 0 := by simpa using h2
          have := Sh.one_ok h3
          exact ih g _ _ (by rw [List.length_drop]; omega) (by rw [List.length_drop]; omega)

/-- The cutting so far: acc is cut, rest is left. -/
def Cutting (s : Sh) (bs : List Int) (acc : List (Int × List Int)) (rest : List Int) : Prop := s.cut bs = s.cutA rest.length acc rest
theorem Cutting.start {s : Sh} {bs : List Int} (h : s.may = true) : Cutting s bs [] bs := by unfold Cutting Sh.cut; rw [h]; rfl
theorem Cutting.done {s : Sh} {bs : List Int} {acc : List (Int × List Int)} {rest : List Int} (h : Cutting s bs acc rest) (h0 : rest.length = 0) : s.cut bs = (acc, 0) := by
  unfold Cutting at h; rw [h, h0]; rfl
theorem Cutting.fails {s : Sh} {bs : List Int} {acc : List (Int × List Int)} {rest : List Int} (h : Cutting s bs acc rest) (h0 : 0 < rest.length) (h1 : (s.one rest).2.2 ≠ 0) : s.cut bs = ([], (s.one rest).2.2) := by
  unfold Cutting at h
  rw [h, show rest.length = (rest.length - 1) + 1 by omega]
  simp only [Sh.cutA]
  rw [if_neg (by omega), if_pos h1]
theorem Cutting.next {s : Sh} {bs : List Int} {acc : List (Int × List Int)} {rest : List Int} (h : Cutting s bs acc rest) (h0 : 0 < rest.length) (h1 : (s.one rest).2.2 = 0) : Cutting s bs (acc ++ [(s.one rest).1]) (rest.drop (s.one rest).2.1) := by
  unfold Cutting at h ⊢
  have := Sh.one_ok h1
  rw [h, show rest.length = (rest.length - 1) + 1 by omega]
  simp only [Sh.cutA]
  rw [if_neg (by omega), if_neg (by simp [h1])]
  exact Sh.cutA_fuel _ _ _ _ (by rw [List.length_drop]; omega) (Nat.le_refl _)

end Go.Proofs.YtcebcncpbedkmaaGreat
namespace Go.Proofs.YtcebcncpbedkmaaGreat

theorem Sh.thing_len (s : Sh) (x : Int × List Int) : (s.thing x).length = 4 + x.2.length + s.zeros (4 + x.2.length) := by
  simp [Sh.thing, be_length]; omega

theorem told_thing {s : Sh} {x : Int × List Int} (h : s.good x = true) (more : List Int) : told (s.thing x ++ more) = 4 + x.2.length := by
  simp only [Sh.good, Bool.and_eq_true, decide_eq_true_eq] at h
  unfold told Sh.thing
  rw [List.append_assoc, List.drop_left' (be_length _ _), List.append_assoc, List.take_left' (be_length _ _), valL_be]
  have : (256 : Int) ^ 2 = 65536 := by decide
  rw [this]
  omega

theorem Sh.one_thing {s : Sh} {x : Int × List Int} (hm : s.may = true) (h : s.good x = true) (more : List Int) : s.one (s.thing x ++ more) = (x, (s.thing x).length, 0) := by
  have hg := h
  simp only [Sh.good, Bool.and_eq_true, decide_eq_true_eq] at hg
  have hl := s.thing_len x
  unfold Sh.one
  rw [told_thing h, if_neg (by simp [hm]), if_neg (by rw [List.length_append]; omega), if_neg (by
    rintro (h1 | h1)
    · rw [hg.2] at h1; cases h1
    · rw [List.length_append] at h1; omega)]
  have e1 : ((s.thing x ++ more).drop (4 + x.2.length)).take (s.zeros (4 + x.2.length)) = List.replicate (s.zeros (4 + x.2.length)) 0 := by
    have : s.thing x ++ more = (be 2 x.1 ++ (be 2 (4 + x.2.length : Nat) ++ x.2)) ++ (List.replicate (s.zeros (4 + x.2.length)) 0 ++ more) := by simp [Sh.thing]
    rw [this, List.drop_left' (by simp [be_length]; omega), List.take_left' (by simp)]
  have e2 : ((s.thing x ++ more).take (4 + x.2.length)).drop 4 = x.2 := by
    have : s.thing x ++ more = (be 2 x.1 ++ (be 2 (4 + x.2.length : Nat) ++ x.2)) ++ (List.replicate (s.zeros (4 + x.2.length)) 0 ++ more) := by simp [Sh.thing]
    rw [this, List.take_left' (by simp [be_length]; omega), ← List.append_assoc, List.drop_left' (by simp [be_length])]
  have e3 : valL ((s.thing x ++ more).take 2) = x.1 := by
    unfold Sh.thing
    rw [List.append_assoc, List.take_left' (be_length _ _), valL_be]
    have : (256 : Int) ^ 2 = 65536 := by decide
    rw [this]
    omega
  rw [e1, if_neg (by simp), e2, e3, hl]

theorem take_two (bs : List Int) (hb : U8 bs) (h : 4 ≤ bs.length) : be 2 (valL (bs.take 2)) = bs.take 2 ∧ be 2 (told bs : Int) = (bs.drop 2).take 2 := by
  have h1 := be_valL0 (b := bs.take 2) (fun z hz => hb z (List.mem_of_mem_take hz))
  have h2 := be_valL0 (b := (bs.drop 2).take 2) (fun z hz => hb z (List.mem_of_mem_drop (List.mem_of_mem_take hz)))
  rw [show (bs.take 2).length = 2 by simp; omega] at h1
  rw [show ((bs.drop 2).take 2).length = 2 by simp; omega] at h2
  rw [← told_eq hb]
  exact ⟨h1, h2⟩

theorem Sh.thing_one {s : Sh} {bs : List Int} (hb : U8 bs) (h : (s.one bs).2.2 = 0) : s.good (s.one bs).1 = true ∧ s.thing (s.one bs).1 = bs.take (s.one bs).2.1 := by
  unfold Sh.one at h ⊢
  split
  · rename_i h1; rw [if_pos h1] at h; simp at h
  · rename_i h1
    rw [if_neg h1] at h
    have hm : s.may = true := by simpa using h1
    have hm' := Sh.may_iff.1 hm
    split
    · rename_i h2; rw [if_pos h2] at h; exact absurd h hm'.2.2.2.2.1
    · rename_i h2
      rw [if_neg h2] at h
      split
      · rename_i h3; rw [if_pos h3] at h; exact absurd h hm'.2.2.2.2.1
      · rename_i h3
        rw [if_neg h3] at h
        split
        · rename_i h4; rw [if_pos h4] at h; exact absurd h hm'.2.2.2.2.2
        · rename_i h4
          have hz : ((bs.drop (told bs)).take (s.zeros (told bs))).all (· == 0) = true := by simpa using h4
          have hf : s.fits (told bs) = true := by
            cases hf : s.fits (told bs) with
            | true => rfl
            | false => exact absurd (.inl hf) h3
          have hl : told bs + s.zeros (told bs) ≤ bs.length := by
            have : ¬ bs.length < told bs + s.zeros (told bs) := fun h => h3 (.inr h)
            omega
          have h4le : 4 ≤ told bs := by
            have := hf
            simp only [Sh.fits, Bool.and_eq_true, decide_eq_true_eq] at this
            omega
          have ht := told_lt hb
          have hlen : ((bs.take (told bs)).drop 4).length = told bs - 4 := by simp; omega
          have hn : 4 + ((bs.take (told bs)).drop 4).length = told bs := by omega
          obtain ⟨t1, t2⟩ := take_two bs hb (by omega)
          have hv := valL_bd (b := bs.take 2) (fun z hz => hb z (List.mem_of_mem_take hz))
          rw [show (bs.take 2).length = 2 by simp; omega] at hv
          have e256 : (256 : Int) ^ 2 = 65536 := by decide
          rw [e256] at hv
          refine ⟨?_, ?_⟩
          · simp only [Sh.good, Bool.and_eq_true, decide_eq_true_eq]
            rw [hn]
            exact ⟨⟨⟨hv.1, by omega⟩, by omega⟩, hf⟩
          · show be 2 (valL (bs.take 2)) ++ (be 2 ((4 + ((bs.take (told bs)).drop 4).length : Nat) : Int) ++ ((bs.take (told bs)).drop 4 ++ List.replicate (s.zeros (4 + ((bs.take (told bs)).drop 4).length)) 0)) = bs.take (told bs + s.zeros (told bs))
            rw [hn, t1, t2]
            have ez : List.replicate (s.zeros (told bs)) 0 = (bs.drop (told bs)).take (s.zeros (told bs)) := by
              symm
              rw [List.eq_replicate_iff]
              exact ⟨by simp; omega, fun z hz' => by simpa using List.all_eq_true.1 hz z hz'⟩
            have e1 : bs.take (told bs + s.zeros (told bs)) = bs.take (told bs) ++ (bs.drop (told bs)).take (s.zeros (told bs)) := List.take_add
            have e2 : bs.take (told bs) = (bs.take (told bs)).take 4 ++ (bs.take (told bs)).drop 4 := (List.take_append_drop 4 _).symm
            have e3 : (bs.take (told bs)).take 4 = bs.take 2 ++ (bs.drop 2).take 2 := by
              rw [List.take_take, Nat.min_eq_left h4le]
              exact (List.take_add (i := 2) (j := 2) (l := bs))
            rw [ez, e1, ← List.append_assoc, ← List.append_assoc, ← e3, ← e2]

theorem Sh.cut_all {s : Sh} (hm : s.may = true) : ∀ (l : List (Int × List Int)) (f : Nat) (acc : List (Int × List Int)), l.all s.good = true → (s.all l).length ≤ f → s.cutA f acc (s.all l) = (acc ++ l, 0) := by
  intro l
  induction l with
  | nil =>
    intro f acc _ _
    cases f with
    | zero => simp [Sh.cutA]
    | succ f => simp [Sh.cutA, Sh.all]
  | cons x l ih =>
    intro f acc hg hf
    simp only [List.all_cons, Bool.and_eq_true] at hg
    have e : s.all (x :: l) = s.thing x ++ s.all l := by simp [Sh.all]
    have hl := s.thing_len x
    rw [e, List.length_append] at hf
    rw [e]
    cases f with
    | zero => omega
    | succ f =>
      simp only [Sh.cutA]
      rw [Sh.one_thing hm hg.1, if_neg (by rw [List.length_append]; omega), if_neg (by simp), List.drop_left' rfl, ih f _ hg.2 (by omega)]
      simp
theorem Sh.cut_join {s : Sh} {l : List (Int × List Int)} (h : (s.join l).2 = 0) : s.cut (s.join l).1 = (l, 0) := by
  unfold Sh.join at h ⊢
  split at h
  · rename_i hc
    rw [if_pos hc]
    simp only [Bool.and_eq_true] at hc
    unfold Sh.cut
    rw [hc.1]
    simpa using Sh.cut_all hc.1 l _ [] hc.2 (Nat.le_refl _)
  · simp at h

theorem Sh.all_cut {s : Sh} : ∀ (f : Nat) (bs : List Int) (acc m : List (Int × List Int)), U8 bs → bs.length ≤ f → s.cutA f acc bs = (m, 0) → ∃ k, m = acc ++ k ∧ k.all s.good = true ∧ s.all k = bs := by
  intro f
  induction f with
  | zero =>
    intro bs acc m hb hf h
    obtain rfl : bs = [] := List.eq_nil_of_length_eq_zero (by omega)
    simp [Sh.cutA] at h
    exact ⟨[], by simp [h], rfl, rfl⟩
  | succ f ih =>
    intro bs acc m hb hf h
    simp only [Sh.cutA] at h
    split at h
    · rename_i h0
      obtain rfl : bs = [] := List.eq_nil_of_length_eq_zero h0
      simp at h
      exact ⟨[], by simp [h], rfl, rfl⟩
    · split at h
      · rename_i h1
        injection h with h2 h3
        exact absurd h3 h1
      · rename_i h0 h1
        have h1' : (s.one bs).2.2 = 0 := by simpa using h1
        have ho := Sh.one_ok h1'
        obtain ⟨g1, g2⟩ := Sh.thing_one hb h1'
        obtain ⟨k, hk, hkg, hka⟩ := ih _ _ _ (fun z hz => hb z (List.mem_of_mem_drop hz)) (by rw [List.length_drop]; omega) h
        refine ⟨(s.one bs).1 :: k, by simp [hk], by simp [g1, hkg], ?_⟩
        show (((s.one bs).1 :: k).map s.thing).flatten = bs
        rw [List.map_cons, List.flatten_cons, g2]
        show _ ++ s.all k = bs
        rw [hka, List.take_append_drop]
theorem Sh.join_cut {s : Sh} {bs : List Int} (hb : U8 bs) (h : (s.cut bs).2 = 0) : s.join (s.cut bs).1 = (bs, 0) := by
  unfold Sh.cut at h ⊢
  split
  · rename_i hm
    rw [if_pos hm] at h
    obtain ⟨k, hk, hg, ha⟩ := Sh.all_cut bs.length bs [] (s.cutA bs.length [] bs).1 hb (Nat.le_refl _) (by rw [← h])
    rw [hk, List.nil_append]
    unfold Sh.join
    rw [if_pos (by simp only [Bool.and_eq_true]; exact ⟨hm, hg⟩), ha]
  · rename_i hm; rw [if_neg hm] at h; simp at h
theorem Sh.cut_err {s : Sh} {bs : List Int} (h : (s.cut bs).2 ≠ 0) : (s.cut bs).1 = [] := by
  have key : ∀ (f : Nat) (bs : List Int) (acc : List (Int × List Int)), (s.cutA f acc bs).2 ≠ 0 → (s.cutA f acc bs).1 = [] := by
    intro f
    induction f with
    | zero => intro bs acc h; simp [Sh.cutA] at h
    | succ f ih =>
      intro bs acc h
      simp only [Sh.cutA] at h ⊢
      split
      · rename_i h0; rw [if_pos h0] at h; simp at h
      · rename_i h0
        rw [if_neg h0] at h
        split
        · rfl
        · rename_i h1
          rw [if_neg h1] at h
          exact ih _ _ h
  unfold Sh.cut at h ⊢
  split
  · rename_i hm; rw [if_pos hm] at h; exact key _ _ _ h
  · rfl

end Go.Proofs.YtcebcncpbedkmaaGreat
