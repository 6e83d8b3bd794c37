/- Slices that the program itself lays, as parts of memory: texts, and slices.Sort over them. No condition but that the lengths fit. -/
import Derived.Test.YtcffickkipicbaaGreatDoorSpD
import Derived.Test.YtcffickkipicbaaGreatDoorStrs
import Derived.Test.YtcffickkipicbaaGreatDoorRow0
set_option linter.unusedSimpArgs false
set_option linter.unusedVariables false
set_option linter.unnecessarySimpa false
namespace Go.Proofs.YtcffickkipicbaaGreatDoor
open Go.RowKit Go.Maps Go.Sort

section
variable {w0 w : World} {F0 : List Nat} {L : List Res} {v : Value}
theorem Sp.texts {l : List Bs} (S : Sp w0 F0 w (textsR v l :: L)) : Strs w v l := S.row
theorem sortTextsS {l : List Bs} (S : Sp w0 F0 w (textsR v l :: L)) (hl : l.length < 4611686018427387904) : Calls Tryz.prog 55 #[v] w fun r w2 => r = .returned (.tuple #[]) ∧ Sp w0 F0 w2 (textsR v (sortB l) :: L) := by
  obtain ⟨F, ⟨rfl, h⟩, hk⟩ := S.take
  refine (sort_strs v l w h hl).mono fun _ w2 ⟨he, h2, hx⟩ => ⟨he, ?_⟩
  exact hk w2 (textsR v (sortB l)) v.ownBlock.toList ⟨rfl, h2⟩ (Moved.of_ext hx)
end
end Go.Proofs.YtcffickkipicbaaGreatDoor
