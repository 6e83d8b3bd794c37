/- client, plainly: a session that knows no EHLO. No program. -/
import Derived.Test.YtldlbiodllgflaaGreatDoorClT
import Derived.Test.YtldlbiodllgflaaGreatDoorClR
set_option linter.unusedSimpArgs false
set_option linter.unusedVariables false
set_option linter.unnecessarySimpa false
namespace Go.Proofs.YtldlbiodllgflaaGreatDoor

def rcptW (b : Mb) : Bs := (cmWrite ⟨4, [], b, 0, false⟩).1
theorem take4 {C : Cl} (h : C.phase = 4) (code : Int) : C.take code = C.named (classC code) := by unfold Cl.take; rw [if_pos h]
theorem name_some {C : Cl} {r : Rc} (h : C.tos[C.at_]? = some r) : C.name = C.send ⟨4, [], r.box, 0, false⟩ 4 := by unfold Cl.name; rw [h]
theorem name_none {C : Cl} (h : C.tos[C.at_]? = none) (ha : C.tos.any Rc.taken = true) : C.name = C.send ⟨5, [], ([], []), 0, false⟩ 5 := by unfold Cl.name; rw [h, ha]; rfl
theorem play_cons {C : Cl} (h : C.phase ≠ 8) (c : Int) (l : List Int) : (C.play (c :: l)).2 = (C.take c).2 ++ ((C.take c).1.play l).2 := by
  conv => lhs; unfold Cl.play
  rw [if_neg h]
theorem modify_box (l : List Rc) (k : Nat) (cls : Int) : (l.modify k (·.told cls)).map Rc.box = l.map Rc.box := by
  apply List.ext_getElem?
  intro i
  rw [List.getElem?_map, List.getElem?_map, List.getElem?_modify]
  cases l[i]? with
  | none => rfl
  | some r =>
    by_cases e : k = i
    · simp [e, told_box]
    · simp [e]
theorem lnJoin_cons (x : Bs) (l : List Bs) : lnJoin (x :: l) = lnJoin [x] ++ lnJoin l := by simp [lnJoin]
theorem drop_box (l : List Rc) (k n : Nat) (cls : Int) : ((l.modify k (·.told cls)).drop n).map Rc.box = (l.drop n).map Rc.box := by
  rw [List.map_drop, List.map_drop, modify_box]
theorem hello_rest : ∀ (m : Nat) (C : Cl), C.phase = 4 → C.at_ + m = C.tos.length → 0 < m → (∀ r ∈ C.tos, r.state = 0) →
    (C.play (List.replicate m 250)).2 = lnJoin (((C.tos.drop (C.at_ + 1)).map Rc.box).map rcptW ++ [[68, 65, 84, 65]])
  | 0, _, _, _, h, _ => absurd h (by decide)
  | m + 1, C, h4, hn, _, hs => by
    have hlt : C.at_ < C.tos.length := by omega
    have hc : classC 250 = 2 := by decide
    rw [List.replicate_succ, play_cons (by omega), take4 h4, hc]
    unfold Cl.named
    have hst : ∀ r ∈ C.tos.modify C.at_ (·.told 2), r.state = 0 := fun r hr => by
      obtain ⟨i, hi, rfl⟩ := List.mem_iff_getElem.1 hr
      have hi' : i < C.tos.length := by simpa using hi
      simp only [List.getElem_modify]
      have := hs C.tos[i] (List.getElem_mem hi')
      split
      · unfold Rc.told; rw [if_pos rfl]; exact this
      · exact this
    by_cases hm : m = 0
    · subst hm
      have hno : (C.tos.modify C.at_ (·.told 2))[C.at_ + 1]? = none := List.getElem?_eq_none (by simp; omega)
      have hany : (C.tos.modify C.at_ (·.told 2)).any Rc.taken = true := by
        rw [List.any_eq_true]
        refine ⟨(C.tos[C.at_]).told 2, ?_, ?_⟩
        · rw [List.mem_iff_getElem]
          exact ⟨C.at_, by simpa using hlt, by simp [List.getElem_modify]⟩
        · unfold Rc.told Rc.taken
          rw [if_pos rfl]
          have := hs _ (List.getElem_mem hlt)
          simp [this]
      rw [name_none (C := { C with tos := C.tos.modify C.at_ (·.told 2), at_ := C.at_ + 1 }) hno hany, List.drop_of_length_le (by omega)]
      show lnJoin [(cmWrite _).1] ++ (Cl.play _ []).2 = _
      rw [data_write]
      rfl
    · have hlt2 : C.at_ + 1 < C.tos.length := by omega
      have hso : (C.tos.modify C.at_ (·.told 2))[C.at_ + 1]? = some C.tos[C.at_ + 1] := by
        rw [List.getElem?_modify, List.getElem?_eq_getElem hlt2]
        simp
      rw [name_some (C := { C with tos := C.tos.modify C.at_ (·.told 2), at_ := C.at_ + 1 }) hso]
      have ih := hello_rest m (({ C with tos := C.tos.modify C.at_ (·.told 2), at_ := C.at_ + 1 } : Cl).send ⟨4, [], C.tos[C.at_ + 1].box, 0, false⟩ 4).1 rfl (by show C.at_ + 1 + m = (C.tos.modify _ _).length; simp; omega) (by omega) hst
      rw [ih]
      show lnJoin [rcptW C.tos[C.at_ + 1].box] ++ lnJoin ((((C.tos.modify C.at_ (·.told 2)).drop (C.at_ + 1 + 1)).map Rc.box).map rcptW ++ _) = _
      rw [drop_box]
      have e : C.tos.drop (C.at_ + 1) = C.tos[C.at_ + 1] :: C.tos.drop (C.at_ + 1 + 1) := List.drop_eq_getElem_cons hlt2
      rw [e, List.map_cons, List.map_cons, List.cons_append]
      exact (lnJoin_cons _ _).symm
def hxW : Bs := [104, 46, 120]
def helloL (tos : List Mb) : List Bs := [69, 72, 76, 79, 32, 104, 46, 120] :: [72, 69, 76, 79, 32, 104, 46, 120] :: [77, 65, 73, 76, 32, 70, 82, 79, 77, 58, 60, 62] :: (tos.map rcptW ++ [[68, 65, 84, 65]])
theorem hello_play (tos : List Mb) (body : Bs) (hn : tos ≠ []) : ((⟨hxW, ([], []), tos.map fun b => ⟨b, 0, false⟩, body, 0, 0⟩ : Cl).play (220 :: 500 :: 250 :: 250 :: List.replicate tos.length 250)).2 = lnJoin (helloL tos) := by
  have c220 : classC 220 = 2 := by decide
  have c500 : classC 500 = 5 := by decide
  have c250 : classC 250 = 2 := by decide
  have t0 : ∀ C : Cl, C.phase = 0 → C.take 220 = C.greet 2 1 := fun C h => by
    unfold Cl.take Cl.opening
    rw [if_neg (by omega), if_neg (by omega), if_neg (by omega), if_neg (by omega), c220, if_pos ⟨h, rfl⟩]
  have t1 : ∀ C : Cl, C.phase = 1 → C.take 500 = C.greet 1 2 := fun C h => by
    unfold Cl.take Cl.opening
    rw [if_neg (by omega), if_neg (by omega), if_neg (by omega), if_neg (by omega), c500, if_neg (by omega), if_neg (by omega), if_pos ⟨h, rfl⟩]
  have t2 : ∀ C : Cl, C.phase = 2 → C.take 250 = C.mail (-1) := fun C h => by
    unfold Cl.take Cl.opening
    rw [if_neg (by omega), if_neg (by omega), if_neg (by omega), if_neg (by omega), c250, if_neg (by omega), if_neg (by omega), if_neg (by omega), if_neg (by omega), if_pos ⟨h, rfl⟩]
  have t3 : ∀ C : Cl, C.phase = 3 → C.take 250 = C.name := fun C h => by
    unfold Cl.take Cl.opening
    rw [if_neg (by omega), if_neg (by omega), if_neg (by omega), if_neg (by omega), c250, if_neg (by omega), if_neg (by omega), if_neg (by omega), if_neg (by omega), if_neg (by omega), if_pos ⟨h, rfl⟩]
  obtain ⟨b, r, rfl⟩ : ∃ b r, tos = b :: r := by
    cases tos with
    | nil => exact absurd rfl hn
    | cons b r => exact ⟨b, r, rfl⟩
  rw [play_cons (by show (0 : Int) ≠ 8; decide), t0 _ rfl]
  rw [play_cons (by show (1 : Int) ≠ 8; decide), t1 _ rfl]
  rw [play_cons (by show (2 : Int) ≠ 8; decide), t2 _ rfl]
  rw [play_cons (by show (3 : Int) ≠ 8; decide), t3 _ rfl]
  rw [name_some (r := ⟨b, 0, false⟩) rfl]
  rw [hello_rest (b :: r).length _ rfl (by show 0 + _ = _; simp [Cl.send, Cl.mail, Cl.greet]) (by simp) (fun x hx => by
    obtain ⟨y, _, rfl⟩ := List.mem_map.1 hx
    rfl)]
  have e1 : (cmWrite ⟨2, hxW, ([], []), 0, false⟩).1 = [69, 72, 76, 79, 32, 104, 46, 120] := by decide +kernel
  have e2 : (cmWrite ⟨1, hxW, ([], []), 0, false⟩).1 = [72, 69, 76, 79, 32, 104, 46, 120] := by decide +kernel
  have e3 : (cmWrite ⟨3, [], ([], []), -1, false⟩).1 = [77, 65, 73, 76, 32, 70, 82, 79, 77, 58, 60, 62] := by decide +kernel
  show lnJoin [(cmWrite ⟨2, hxW, ([], []), 0, false⟩).1] ++ (lnJoin [(cmWrite ⟨1, hxW, ([], []), 0, false⟩).1] ++ (lnJoin [(cmWrite ⟨3, [], ([], []), -1, false⟩).1] ++ (lnJoin [rcptW b] ++ lnJoin (((List.drop (0 + 1) ((b :: r).map fun b => (⟨b, 0, false⟩ : Rc))).map Rc.box).map rcptW ++ [[68, 65, 84, 65]])))) = _
  rw [e1, e2, e3]
  simp [helloL, lnJoin, List.map_map, Function.comp_def]
/-- The lines that are sent. -/
theorem hello_lines {tos : List Mb} (h : tos.all mbMay = true) : crR (lnJoin (helloL tos)) = (helloL tos, []) ∧ (helloL tos).length = 4 + tos.length ∧ ∀ i, (hi : i < tos.length) → ∃ z, (helloL tos)[3 + i]? = some (rcptW tos[i]) ∧ cmParse (rcptW tos[i]) = (⟨4, [], tos[i], z, false⟩, 0) := by
  have hm : ∀ b ∈ tos, mbMay b = true := List.all_eq_true.1 h
  refine ⟨?_, by simp [helloL]; omega, fun i hi => ?_⟩
  · have := crR_join (helloL tos) [] fun x hx => by
      unfold helloL at hx
      rcases List.mem_cons.1 hx with rfl | hx
      · decide
      rcases List.mem_cons.1 hx with rfl | hx
      · decide
      rcases List.mem_cons.1 hx with rfl | hx
      · decide
      rcases List.mem_append.1 hx with hx | hx
      · obtain ⟨b, hb, rfl⟩ := List.mem_map.1 hx
        obtain ⟨y, h1, h2, _⟩ := rcpt_line ⟨[], ([], []), [], [], 0, 0⟩ 4 (hm b hb)
        have : rcptW b = y := by
          have h3 : lnJoin [rcptW b] = lnJoin [y] := h1
          simpa [lnJoin] using h3
        rw [this]
        exact h2
      · rw [List.mem_singleton.1 hx]; decide
    rw [List.append_nil] at this
    rw [this]
    simp [crR]
  · have hw := rcpt_write (hm _ (List.getElem_mem hi))
    refine ⟨-1, ?_, ?_⟩
    · unfold helloL
      rw [show 3 + i = i + 1 + 1 + 1 by omega]
      simp only [List.getElem?_cons_succ]
      rw [List.getElem?_append_left (by simpa using hi), List.getElem?_map, List.getElem?_eq_getElem hi]
      rfl
    · unfold rcptW
      rw [hw]
      have := cmParse_write hw
      rw [this]
      rfl
end Go.Proofs.YtldlbiodllgflaaGreatDoor
