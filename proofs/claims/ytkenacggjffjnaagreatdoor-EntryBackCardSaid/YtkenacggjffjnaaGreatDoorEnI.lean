/- entry: files made and opened by an ideal box. Conditions: the lengths fit; what Go's variables hold. -/
import Derived.Test.YtkenacggjffjnaaGreatDoorEnB
set_option linter.unusedSimpArgs false
set_option linter.unusedVariables false
set_option linter.unnecessarySimpa false
namespace Go.Proofs.YtkenacggjffjnaaGreatDoor
open Go.RowKit Go.Maps

/-- What a box' table holds fits. -/
def TabOk (M : Mp Sealed3) : Prop := M.length ≤ 100000 ∧ ∀ k x, M.get k = some x → x.2.1.length ≤ 1000000 ∧ x.2.2.length ≤ 1000000
theorem TabOk.nil : TabOk [] := ⟨by decide, fun k x h => by simp [Mp.get] at h⟩
theorem bxSeal_len {U : Bs → Bs → Bs} {M : Mp Sealed3} {D k n d t : Bs} (hM : TabOk M) (hD : D.length ≤ 1000000) : (bxSeal U M D k n d t).1.1.length ≤ 1000000 := by
  unfold bxSeal
  split
  · cases hg : M.get (U k n) with
    | none =>
      dsimp only
      split
      · exact Nat.zero_le _
      · dsimp only
        rw [List.length_take]
        omega
    | some x =>
      dsimp only
      split
      · exact (hM.2 _ _ hg).2
      · exact Nat.zero_le _
  · exact Nat.zero_le _
theorem bxOpen_len {U : Bs → Bs → Bs} {M : Mp Sealed3} {k n d t : Bs} (hM : TabOk M) : (bxOpen U M k n d t).1.length ≤ 1000000 := by
  unfold bxOpen
  split
  · cases hg : M.get (U k n) with
    | none => exact Nat.zero_le _
    | some x =>
      dsimp only
      split
      · exact (hM.2 _ _ hg).1
      · exact Nat.zero_le _
  · exact Nat.zero_le _
theorem enSeal_eq (U : Bs → Bs → Bs) (M : Mp Sealed3) (D key : Bs) (e : En) (body : Bs) : (enSeal U M D key e body).1 = enSealV e body (bxSeal U M D key (nonceE e.cnt) (headB e) (fillB body)).1 := by
  unfold enSeal enSealV
  dsimp only
  repeat' split
  all_goals rfl
theorem enSeal_box (U : Bs → Bs → Bs) (M : Mp Sealed3) (D key : Bs) (e : En) (body : Bs) : (enSeal U M D key e body).2 = if enMay e = true ∧ body.length ≤ 16000 then (bxSeal U M D key (nonceE e.cnt) (headB e) (fillB body)).2 else (D, M) := by
  unfold enSeal
  dsimp only
  by_cases h1 : enMay e = true
  · by_cases h2 : body.length ≤ 16000
    · rw [if_pos h1, if_pos h2, if_pos (show enMay e = true ∧ body.length ≤ 16000 from ⟨h1, h2⟩)]
      split <;> rfl
    · rw [if_pos h1, if_neg h2, if_neg (fun h : enMay e = true ∧ body.length ≤ 16000 => h2 h.2)]
  · rw [if_neg h1, if_neg (fun h : enMay e = true ∧ body.length ≤ 16000 => h1 h.1)]
theorem enOpen_eq (U : Bs → Bs → Bs) (M : Mp Sealed3) (key s : Bs) : enOpen U M key s = enOpenV (bxOpen U M key) s := rfl

section
variable {w0 w : World} {L : List Res} {v : Value} {b : Nat} {D : Bs} {M : Mp Sealed3}
theorem enSealI (e : En) (key body : Bs) (E : Env w0) (hf : e.Fit) (hk : key.length ≤ 1000000) (hM : TabOk M) (hD : D.length ≤ 1000000) (T : TosAt w v e.rcs) (S : Sp w0 [] w (idealR b D M :: L)) :
    Calls Tryz.prog 27 #[.pointer (some ⟨b, 0, none⟩), .string ⟨key.toArray⟩, enAgg e v, .string ⟨body.toArray⟩] w fun r w2 => r = .returned (.tuple #[.string ⟨(enSeal uB M D key e body).1.1.toArray⟩, .int .i64 (enSeal uB M D key e body).1.2]) ∧ Sp w0 [] w2 (idealR b (enSeal uB M D key e body).2.1 (enSeal uB M D key e body).2.2 :: L) := by
  refine (enSealG (B2 := idealR b (bxSeal uB M D key (nonceE e.cnt) (headB e) (fillB body)).2.1 (bxSeal uB M D key (nonceE e.cnt) (headB e) (fillB body)).2.2) e key body (bxSeal uB M D key (nonceE e.cnt) (headB e) (fillB body)).1 E hf T S (bxSeal_len hM hD) (fun h1 h2 w' L' S' => bxSealS key (nonceE e.cnt) (headB e) (fillB body) hk (by rw [nonceE_length]; omega) (by rw [fillB_length h2]; have := bucket_le (textB body).length; omega) (by have := hM.1; omega) S')).mono ?_
  rintro r w2 ⟨rfl, S2⟩
  rw [enSeal_eq, enSeal_box]
  refine ⟨rfl, ?_⟩
  by_cases h : enMay e = true ∧ body.length ≤ 16000
  · rw [if_pos h] at S2 ⊢
    exact S2
  · rw [if_neg h] at S2 ⊢
    exact S2
theorem enOpenI (key s : Bs) (hs : s.length ≤ 1000000) (hk : key.length ≤ 1000000) (E : Env w0) (hM : TabOk M) (S : Sp w0 [] w (idealR b D M :: L)) :
    Calls Tryz.prog 28 #[.pointer (some ⟨b, 0, none⟩), .string ⟨key.toArray⟩, .string ⟨s.toArray⟩] w fun r w2 => ∃ v, r = .returned (.tuple #[enAgg (enOpen uB M key s).1 v, .string ⟨(enOpen uB M key s).2.1.toArray⟩, .int .i64 (enOpen uB M key s).2.2]) ∧ Sp w0 [] w2 (tosR v (enOpen uB M key s).1.rcs :: idealR b D M :: L) := by
  rw [enOpen_eq]
  exact enOpenG (bxOpen uB M key) key s hs E S (fun n d t w' L' h1 h2 h3 S' => bxOpenS key n d t hk (by omega) h3 S') (fun n d t => bxOpen_len hM)
end
end Go.Proofs.YtkenacggjffjnaaGreatDoor
