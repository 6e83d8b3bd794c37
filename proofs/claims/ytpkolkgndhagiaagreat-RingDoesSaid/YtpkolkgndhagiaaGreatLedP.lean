/- ledger, plainly: rows of bytes, counters. No program. -/
import Derived.Test.YtpkolkgndhagiaaGreatPackP
import Derived.Test.YtpkolkgndhagiaaGreatMap
set_option linter.unusedSimpArgs false
set_option linter.unusedVariables false
set_option linter.unnecessarySimpa false
namespace Go.Proofs.YtpkolkgndhagiaaGreat

structure LRow where
  key : Bs
  ceil : Nat
def LRow.text (x : LRow) : Bs := textB (textB x.key ++ numB x.ceil)
/-- What bytes are read as: a row, and whether they are one. -/
def readRow (s : Bs) : LRow × Bool :=
  let a := Rd.text ⟨s, false⟩ 300
  let b := a.2.num 1099511627776
  (⟨a.1, b.1⟩, decide (b.2.done = 0))
def rowsF : Nat → Rd → List LRow × Rd
  | 0, r => ([], r)
  | f + 1, r =>
    let t := r.text 600
    if (readRow t.1).2 && !t.1.isEmpty then ((readRow t.1).1 :: (rowsF f t.2).1, (rowsF f t.2).2) else ([], r)
def rowsOf (s : Bs) : List LRow := (rowsF (s.length + 1) ⟨s, false⟩).1
/-- Up to where the rows go. -/
def rowsAt (s : Bs) : Nat := s.length - (rowsF (s.length + 1) ⟨s, false⟩).2.s.length
def nonceB (n : Nat) : Bs := [0, 0, 0, 0] ++ highB n 8

structure Cnt where
  c : Nat
  ceil : Nat
structure Lg where
  step : Nat
  most : Nat
  m : Mp Cnt
def Lg.of (L : Lg) (k : Bs) : Cnt := (L.m.get k).getD ⟨0, 0⟩
end Go.Proofs.YtpkolkgndhagiaaGreat
