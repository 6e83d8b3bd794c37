/- A map's elements that are slices of texts, each with a row of its own: the rows as one part of memory. No condition. -/
import Derived.Test.YtcffickkipicbaaGreatDoorMap
import Derived.Test.YtcffickkipicbaaGreatDoorRow0
import Derived.Test.YtcffickkipicbaaGreatDoorRoO
/-! Mrow -/
set_option linter.unusedSimpArgs false
set_option linter.unusedVariables false
set_option linter.unnecessarySimpa false
namespace Go.Proofs.YtcffickkipicbaaGreatDoor
open Go.RowKit Go.Maps

abbrev MV := Value × List Bs
/-- The rows of all elements. -/
def mrows : Mp MV → Res
  | [] => Res.pure True
  | p :: r => (textsR p.2.1 p.2.2).and (mrows r)
section
variable {w0 w w2 : World} {F0 : List Nat} {L : List Res} {M : Mp MV} {x : Bs} {e : MV}
theorem Sp.mrNil (S : Sp w0 F0 w L) : Sp w0 F0 w (mrows [] :: L) := S.pureShut trivial
theorem Sp.mrDrop (S : Sp w0 F0 w (mrows [] :: L)) : Sp w0 F0 w L := S.pureOpen.2
theorem Sp.mrOpen {p : Bs × MV} {r : Mp MV} (S : Sp w0 F0 w (mrows (p :: r) :: L)) : Sp w0 F0 w (textsR p.2.1 p.2.2 :: mrows r :: L) := Sp.part S
theorem Sp.mrShut {p : Bs × MV} {r : Mp MV} (S : Sp w0 F0 w (textsR p.2.1 p.2.2 :: mrows r :: L)) : Sp w0 F0 w (mrows (p :: r) :: L) := Sp.glue S
theorem Mp.del_cons_ne {V : Type} {p : Bs × V} {r : Mp V} (h : p.1 ≠ x) : Mp.del (p :: r) x = p :: Mp.del r x := by
  show (p :: r).filter (fun q => !(q.1 == x)) = _
  rw [List.filter_cons, if_pos (by simp [h])]
  rfl
theorem Sp.mrDel : ∀ {r : Mp MV} {L : List Res}, Sp w0 F0 w (mrows r :: L) → Sp w0 F0 w (mrows (r.del x) :: L)
  | [], _, S => S
  | p :: r, L, S => by
    by_cases hp : p.1 = x
    · have hd : Mp.del (p :: r) x = Mp.del r x := by
        show (p :: r).filter (fun q => !(q.1 == x)) = _
        rw [List.filter_cons, if_neg (by simp [hp])]
        rfl
      rw [hd]
      exact Sp.mrDel S.mrOpen.drop
    · rw [Mp.del_cons_ne hp]
      exact (Sp.mrShut (Sp.mrDel S.mrOpen.pull1).pull1)
/-- One row drawn out; the rows of that key are gone. -/
theorem Sp.mrTake : ∀ {M : Mp MV} {L : List Res}, M.get x = some e → Sp w0 F0 w (mrows M :: L) → Sp w0 F0 w (textsR e.1 e.2 :: mrows (M.del x) :: L)
  | [], _, h, _ => by cases h
  | p :: r, L, h, S => by
    rw [Mp.get_cons] at h
    by_cases hp : p.1 = x
    · rw [if_pos hp] at h
      cases h
      have S2 := S.mrOpen
      have hd : Mp.del (p :: r) x = Mp.del r x := by
        show (p :: r).filter (fun q => !(q.1 == x)) = _
        rw [List.filter_cons, if_neg (by simp [hp])]
        rfl
      rw [hd]
      exact (S2.pull1.mrDel).pull1
    · rw [if_neg hp] at h
      rw [Mp.del_cons_ne hp]
      have S2 := Sp.mrTake h S.mrOpen.pull1
      exact (Sp.mrShut ((Sp.pick [_, _, _] [2, 1, 0] (by decide) (S2)))).pull1
theorem Sp.mrIns : ∀ {M : Mp MV} {L : List Res}, Sp w0 F0 w (textsR e.1 e.2 :: mrows M :: L) → Sp w0 F0 w (mrows (Mp.ins (x, e) M) :: L)
  | [], _, S => Sp.mrShut (p := (x, e)) S
  | p :: r, L, S => by
    unfold Mp.ins
    split
    · exact Sp.mrShut (p := (x, e)) S
    · have S2 := S.pull1.mrOpen
      have S3 := Sp.mrIns (L := textsR p.2.1 p.2.2 :: L) ((Sp.pick [_, _, _] [2, 1, 0] (by decide) (S2)))
      exact Sp.mrShut S3.pull1
theorem Sp.mrPut (S : Sp w0 F0 w (textsR e.1 e.2 :: mrows (M.del x) :: L)) : Sp w0 F0 w (mrows (M.put x e) :: L) := Sp.mrIns S
end
end Go.Proofs.YtcffickkipicbaaGreatDoor
