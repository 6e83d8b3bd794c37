/- entry, plainly: the values that awake looks at. No program. -/
import Derived.Test.YtkenacggjffjnaaGreatDoorEnQ
set_option linter.unusedSimpArgs false
set_option linter.unusedVariables false
set_option linter.unnecessarySimpa false
namespace Go.Proofs.YtkenacggjffjnaaGreatDoor
open Go.Maps

def en15 : En := ⟨3, [97, 46, 98], 2, 7, ([], []), [(([120], [99]), 0)], 0, 0, 0⟩
def key15 : Bs := zeros 32
def ab15 : Bs := [97, 98]
theorem en15_may : enMay en15 = true := by
  unfold enMay domMay domOk partsB dotsB rcsMay numsMay
  rw [split_sep 46 3 _ (by decide)]
  have h : rcMay (([120], [99]), 0) = true := by
    unfold rcMay mbMay domOk partsB dotsB
    rw [split_sep 46 1 _ (by decide)]
    decide
  simp only [en15, List.all_cons, List.all_nil, h]
  decide
theorem zero_may : enMay En.zero = false := by
  unfold enMay numsMay
  have : decide (1 ≤ En.zero.id) = false := by decide
  rw [this]
  simp
theorem ab15_fill : enFill ab15 = (fillB ab15, 0) := by unfold enFill; rw [if_pos (by decide)]
theorem ab15_len : (fillB ab15).length = 256 := by rw [fillB_length (by decide)]; decide
theorem ab15_unfill : enUnfill (fillB ab15) = (ab15, 0) := unfill_fill (by decide)
theorem same_refl (e : En) : enSame e e = true := by unfold enSame; simp
theorem nm15 : enName en15 = [113, 47, 51, 46, 50, 46, 55] := by
  unfold enName en15
  rw [Lib.decDigits_one (by decide), Lib.decDigits_one (by decide), Lib.decDigits_one (by decide)]
  decide
variable (U : Bs → Bs → Bs)
def tab15 : Mp Sealed3 := Mp.put [] (U key15 (nonceE 7)) (headB en15, fillB ab15, zeros 272)
def file15 : Bs := textB (headB en15) ++ zeros 272
theorem seal15 : enSeal U [] (zeros 600) key15 en15 ab15 = ((file15, 0), zeros 328, tab15 U) := by
  unfold enSeal
  rw [if_pos en15_may, if_pos (by decide)]
  have h : bxSeal U [] (zeros 600) key15 (nonceE en15.cnt) (headB en15) (fillB ab15) = ((zeros 272, 0), zeros 328, tab15 U) := by
    unfold bxSeal
    have hl := headB_len (enMay_parts en15_may)
    rw [if_pos ⟨zeros_length 32, nonceE_length _, by omega, by rw [ab15_len]; omega⟩]
    rw [show Mp.get ([] : Mp Sealed3) (U key15 (nonceE en15.cnt)) = none from rfl]
    dsimp only
    rw [ab15_len, if_neg (by rw [zeros_length]; omega)]
    have e1 : (zeros 600).take (256 + 16) = zeros 272 := by unfold zeros; rw [List.take_replicate, show min (256 + 16) 600 = 272 by omega]
    have e2 : (zeros 600).drop (256 + 16) = zeros 328 := by unfold zeros; rw [List.drop_replicate, show 600 - (256 + 16) = 328 by omega]
    rw [e1, e2]
    rfl
  rw [h]
  dsimp only
  rw [if_pos rfl]
  rfl
theorem open15 : enOpen U (tab15 U) key15 file15 = (en15, ab15, 0) := by
  unfold enOpen file15
  rw [split_file en15 en15_may]
  dsimp only
  rw [if_pos rfl]
  have hop : bxOpen U (tab15 U) key15 (nonceE en15.cnt) (headB en15) (zeros 272) = (fillB ab15, 0) := by
    unfold bxOpen tab15
    have hl := headB_len (enMay_parts en15_may)
    rw [if_pos ⟨zeros_length 32, nonceE_length _, by omega, by rw [zeros_length]; omega, by rw [zeros_length]; omega⟩, show en15.cnt = 7 from rfl, Mp.get_put, if_pos rfl]
    dsimp only
    rw [if_pos ⟨rfl, rfl⟩]
  rw [hop]
  dsimp only
  rw [if_pos rfl, ab15_unfill, if_pos rfl]
theorem split15 : enSplit file15 = (en15, headB en15, zeros 272, 0) := split_file en15 en15_may _
theorem open15x : enOpen U (tab15 U) key15 (file15 ++ [120]) = (En.zero, [], 20) := by
  unfold enOpen file15
  rw [List.append_assoc, split_file en15 en15_may]
  dsimp only
  rw [if_pos rfl]
  have hop : bxOpen U (tab15 U) key15 (nonceE en15.cnt) (headB en15) (zeros 272 ++ [120]) = ([], 20) := by
    unfold bxOpen tab15
    have hl := headB_len (enMay_parts en15_may)
    rw [if_pos ⟨zeros_length 32, nonceE_length _, by omega, by rw [List.length_append, zeros_length]; omega, by rw [List.length_append, zeros_length]; exact (by decide)⟩, show en15.cnt = 7 from rfl, Mp.get_put, if_pos rfl]
    dsimp only
    rw [if_neg]
    rintro ⟨_, h⟩
    have := congrArg List.length h
    rw [List.length_append, zeros_length, List.length_singleton] at this
    omega
  rw [hop]
  dsimp only
  rw [if_neg (by decide)]
end Go.Proofs.YtkenacggjffjnaaGreatDoor
