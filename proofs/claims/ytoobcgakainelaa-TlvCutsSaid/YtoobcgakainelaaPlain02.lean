/- The cursor, in plain Lean: what it holds, and what each reading does to it. -/
import Derived.Test.YtoobcgakainelaaPlain01
namespace Go.Proofs.Ytoobcgakainelaa

/-- A cursor: its bytes, how many were read, the faults of short and of odd, the fault. -/
structure St where
  bs : List Int
  pos : Nat
  sh : Int
  od : Int
  er : Int

def St.fresh (bs : List Int) (sh od : Int) : St := ⟨bs, 0, sh, od, 0⟩
def St.fail (s : St) (e : Int) : St := if s.er = 0 then { s with er := e } else s
def St.left (s : St) : Nat := s.bs.length - s.pos
def St.rest (s : St) : List Int := s.bs.drop s.pos
def St.row (s : St) (ws : List Int) : St × List Int :=
  if s.er ≠ 0 then (s, [])
  else if (getS ws s.rest).2 = 1 then (s.fail s.sh, [])
  else if (getS ws s.rest).2 = 2 then (s.fail s.od, [])
  else ({ s with pos := s.pos + sizeS ws }, (getS ws s.rest).1)
def St.num (s : St) (width : Int) : St × Int :=
  if width < 1 ∨ 8 < width then (s.fail 10001, 0)
  else ((s.row [width]).1, (s.row [width]).2.getD 0 0)
def St.bytes (s : St) (n : Int) : St × List Int :=
  if n < 0 then (s.fail 10001, [])
  else if s.er ≠ 0 then (s, [])
  else if (s.left : Int) < n then (s.fail s.sh, [])
  else ({ s with pos := s.pos + n.toNat }, s.rest.take n.toNat)
/-- Were the next bytes taken? -/
def St.takes (s : St) (n : Int) : Bool := decide (0 ≤ n) && decide (s.er = 0) && decide (n ≤ (s.left : Int))

/-- What is always so of a cursor. -/
def St.ok (s : St) : Prop := s.pos ≤ s.bs.length ∧ U8 s.bs

theorem St.ok_fail {s : St} (h : s.ok) (e : Int) : (s.fail e).ok := by
  unfold St.fail; split
  · exact h
  · exact h

end Go.Proofs.Ytoobcgakainelaa
