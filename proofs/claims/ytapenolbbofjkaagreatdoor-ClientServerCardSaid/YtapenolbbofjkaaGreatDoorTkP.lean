/- ServerTakes, plainly: a text is offered as it was sent. No program. -/
import Derived.Test.YtapenolbbofjkaaGreatDoorAw21
set_option linter.unusedSimpArgs false
set_option linter.unusedVariables false
set_option linter.unnecessarySimpa false
namespace Go.Proofs.YtapenolbbofjkaaGreatDoor

/-! ### lines, one by one -/
theorem lnNext_line (x r : Bs) (h : noCr x = true) : lnNext (x ++ 13 :: 10 :: r) = some (x, r) := by
  unfold lnNext
  rw [crR_line x r h]
  dsimp only
  rw [show x ++ 13 :: 10 :: r = (x ++ [13, 10]) ++ r by simp, List.drop_left' (by simp)]
/-- A line that lets something happen. -/
theorem next_hit {k k2 : Core} {x r : Bs} {e : Ev} {q : List Ev} (hp : k.phase < 2) (hx : noCr x = true) (ha : act1 k x = (k2, e :: q)) : (k.sv (x ++ 13 :: 10 :: r) []).next = (some e, k2.sv r q) := by
  have h1 : (k.sv (x ++ 13 :: 10 :: r) []).pull = ((act1 k x).1.sv r (act1 k x).2).pull := pull_some (s := k.sv (x ++ 13 :: 10 :: r) []) rfl hp (lnNext_line x r hx)
  rw [next_pull h1, ha]
  exact next_some rfl
/-- A line that lets nothing happen. -/
theorem next_miss {k k2 : Core} {x r : Bs} (hp : k.phase < 2) (hx : noCr x = true) (ha : act1 k x = (k2, [])) : (k.sv (x ++ 13 :: 10 :: r) []).next = (k2.sv r []).next := by
  have h1 : (k.sv (x ++ 13 :: 10 :: r) []).pull = ((act1 k x).1.sv r (act1 k x).2).pull := pull_some (s := k.sv (x ++ 13 :: 10 :: r) []) rfl hp (lnNext_line x r hx)
  rw [next_pull h1, ha]

/-! ### the law's own config and lines -/
def cfT : Cf := ⟨hostS, 5000, rulesS, boxesS⟩
def tkL : List Bs := [[69, 72, 76, 79, 32, 99, 46, 100], [77, 65, 73, 76, 32, 70, 82, 79, 77, 58, 60, 115, 64, 100, 62], [82, 67, 80, 84, 32, 84, 79, 58, 60, 97, 110, 110, 64, 97, 46, 101, 120, 97, 109, 112, 108, 101, 62], [82, 67, 80, 84, 32, 84, 79, 58, 60, 120, 64, 121, 62], [82, 67, 80, 84, 32, 84, 79, 58, 60, 97, 110, 110, 64, 97, 46, 101, 120, 97, 109, 112, 108, 101, 62], [68, 65, 84, 65]]
def noopS : Bs := [78, 79, 79, 80]
def annB : Mb := (annS, domS)
def sdB : Mb := ([115], [100])
def xyB : Mb := ([120], [121])
def cdS : Bs := [99, 46, 100]
def tkK : Nat → Core
  | 0 => (svNew cfT).core
  | n + 1 => (act1 (tkK n) (tkL.getD n [])).1
def fineE : List Ev → Bool
  | [e] => e.kind == 0 && decide (e.code < 400)
  | _ => false
theorem tk0 : fineE (act1 (tkK 0) (tkL.getD 0 [])).2 = true := by kernel_rfl
theorem tk1 : fineE (act1 (tkK 1) (tkL.getD 1 [])).2 = true := by kernel_rfl
theorem tk2 : fineE (act1 (tkK 2) (tkL.getD 2 [])).2 = true := by kernel_rfl
theorem tk3 : fineE (act1 (tkK 3) (tkL.getD 3 [])).2 = true := by kernel_rfl
theorem tk4 : fineE (act1 (tkK 4) (tkL.getD 4 [])).2 = true := by kernel_rfl
theorem tk5 : fineE (act1 (tkK 5) (tkL.getD 5 [])).2 = true := by kernel_rfl
theorem tkPh : (tkK 0).phase = 0 ∧ (tkK 1).phase = 0 ∧ (tkK 2).phase = 0 ∧ (tkK 3).phase = 0 ∧ (tkK 4).phase = 0 ∧ (tkK 5).phase = 0 := ⟨by kernel_rfl, by kernel_rfl, by kernel_rfl, by kernel_rfl, by kernel_rfl, by kernel_rfl⟩
def tkM : Core := ⟨cfT, 1, cdS, ⟨true, sdB, [annB, xyB], [], 0, false⟩, 0⟩
theorem tkE : tkK 6 = tkM := by kernel_rfl
theorem tkC : ∀ n, n < 6 → noCr (tkL.getD n []) = true := by decide
theorem tk_fine (n : Nat) (h : n < 6) : fineE (act1 (tkK n) (tkL.getD n [])).2 = true ∧ (tkK n).phase < 2 := by
  obtain ⟨p0, p1, p2, p3, p4, p5⟩ := tkPh
  rcases n with _ | _ | _ | _ | _ | _ | n
  · exact ⟨tk0, by show (tkK 0).phase < 2; omega⟩
  · exact ⟨tk1, by show (tkK 1).phase < 2; omega⟩
  · exact ⟨tk2, by show (tkK 2).phase < 2; omega⟩
  · exact ⟨tk3, by show (tkK 3).phase < 2; omega⟩
  · exact ⟨tk4, by show (tkK 4).phase < 2; omega⟩
  · exact ⟨tk5, by show (tkK 5).phase < 2; omega⟩
  · omega
theorem fineE_spec {l : List Ev} (h : fineE l = true) : ∃ e, l = [e] ∧ e.kind = 0 ∧ e.code < 400 := by
  unfold fineE at h
  split at h
  · rename_i e
    simp only [Bool.and_eq_true, beq_iff_eq, decide_eq_true_eq] at h
    exact ⟨e, rfl, h.1, h.2⟩
  · cases h
/-- What comes from the n-th line on. -/
def tkR (rest : Bs) (n : Nat) : Bs := lnJoin (tkL.drop n) ++ rest
theorem tkR_at (rest : Bs) (n : Nat) (h : n < 6) : tkR rest n = tkL.getD n [] ++ 13 :: 10 :: tkR rest (n + 1) := by
  have hl : n < tkL.length := h
  unfold tkR
  rw [List.drop_eq_getElem_cons hl, List.getD_eq_getElem?_getD, List.getElem?_eq_getElem hl]
  simp only [lnJoin, List.flatMap_cons, Option.getD_some, List.append_assoc, List.cons_append, List.nil_append]
theorem tkR_end (rest : Bs) : tkR rest 6 = rest := rfl
/-- The session ahead of the n-th event. -/
def tkS (rest : Bs) : Nat → Sv
  | 0 => { svNew cfT with came := tkR rest 0 }
  | n + 1 => (tkS rest n).next.2
theorem tkS_one (rest : Bs) : ∃ e, (tkS rest 0).next = (some e, (tkK 0).sv (tkR rest 0) []) ∧ e.kind = 0 ∧ e.code < 400 := by
  have hq : (tkS rest 0).queue = [evSay 220 [svWords hostS 220]] := by
    show (svNew cfT).queue = _
    kernel_rfl
  refine ⟨_, next_some hq, rfl, by decide⟩
theorem tkS_at (rest : Bs) : ∀ n, n ≤ 6 → tkS rest (n + 1) = (tkK n).sv (tkR rest n) []
  | 0, _ => by
    obtain ⟨e, h, _⟩ := tkS_one rest
    show (tkS rest 0).next.2 = _
    rw [h]
  | n + 1, h => by
    have ih := tkS_at rest n (by omega)
    obtain ⟨f, hp⟩ := tk_fine n (by omega)
    obtain ⟨e, he, _⟩ := fineE_spec f
    show (tkS rest (n + 1)).next.2 = _
    have ha : act1 (tkK n) (tkL.getD n []) = (tkK (n + 1), e :: []) := by rw [← he]; rfl
    rw [ih, tkR_at rest n (by omega), next_hit hp (tkC n (by omega)) ha]
theorem tkS_next (rest : Bs) : ∀ n, n < 7 → ∃ e, (tkS rest n).next.1 = some e ∧ e.kind = 0 ∧ e.code < 400
  | 0, _ => by
    obtain ⟨e, h, h2⟩ := tkS_one rest
    exact ⟨e, by rw [h], h2⟩
  | n + 1, h => by
    obtain ⟨f, hp⟩ := tk_fine n (by omega)
    obtain ⟨e, he, h2⟩ := fineE_spec f
    have ha : act1 (tkK n) (tkL.getD n []) = (tkK (n + 1), e :: []) := by rw [← he]; rfl
    refine ⟨e, ?_, h2⟩
    rw [tkS_at rest n (by omega), tkR_at rest n (by omega), next_hit hp (tkC n (by omega)) ha]

/-! ### the text -/
/-- What a session knows in a text: behind some lines, what of them is kept. -/
def tkT (c : Cf) (greet : Bs) (frm : Mb) (rcs : List Mb) (errs : Nat) (m : List Bs) (k : Core) : Prop := ∃ ls, k = ⟨c, 1, greet, ⟨true, frm, rcs, ls, min (lnJoin m).length 15001, false⟩, errs⟩ ∧ ((lnJoin m).length ≤ c.most → ls = m)
section
variable {c : Cf} {greet : Bs} {frm : Mb} {rcs : List Mb} {errs : Nat}
theorem tk_line (hc : c.most ≤ 15000) {m : List Bs} {k : Core} (h : tkT c greet frm rcs errs m k) (x : Bs) (hx : x.length ≤ 999) : ∃ k2, act1 k (dotted x) = (k2, []) ∧ tkT c greet frm rcs errs (m ++ [x]) k2 := by
  obtain ⟨ls, rfl, h2⟩ := h
  have hd : (dotted x).length ≤ 1000 := by
    unfold dotted
    rw [List.length_append]
    split <;> simp <;> omega
  have hj := lnJoin_more m x
  refine ⟨_, ?_, (if min (min (lnJoin m).length 15001 + x.length + 2) 15001 ≤ c.most then ls ++ [x] else ls), rfl, fun h3 => ?_⟩
  · unfold act1 Sv.take
    rw [if_pos (show (Core.sv _ [] []).phase = 1 from rfl), if_neg (show ¬ 1000 < (dotted x).length by omega)]
    unfold Sv.line
    rw [if_neg (dotted_ne x), undot_dotted]
    have e1 : min (lnJoin (m ++ [x])).length 15001 = min (min (lnJoin m).length 15001 + x.length + 2) 15001 := by omega
    rw [e1]
    rfl
  · rw [hj] at h3
    rw [if_pos (by omega), h2 (by omega)]
theorem tk_end (hc : c.most ≤ 15000) {m : List Bs} {k : Core} (h : tkT c greet frm rcs errs m k) : (c.most < (lnJoin m).length ∧ act1 k [46] = ((Sv.say ⟨c, [], 0, greet, tr0, errs, []⟩ 552).core, (Sv.say ⟨c, [], 0, greet, tr0, errs, []⟩ 552).queue)) ∨
    ((lnJoin m).length ≤ c.most ∧ act1 k [46] = (⟨c, 2, greet, ⟨true, frm, rcs, m, (lnJoin m).length, false⟩, errs⟩, [⟨1, 0, [], greet, frm, rcs, lnJoin m⟩])) := by
  obtain ⟨ls, rfl, h2⟩ := h
  have hu : ∀ t : Tr, act1 ⟨c, 1, greet, t, errs⟩ [46] = ((Sv.ended ⟨c, [], 1, greet, t, errs, []⟩).core, (Sv.ended ⟨c, [], 1, greet, t, errs, []⟩).queue) := fun t => rfl
  rw [hu]
  by_cases h3 : c.most < (lnJoin m).length
  · refine .inl ⟨h3, ?_⟩
    have e : Sv.ended ⟨c, [], 1, greet, ⟨true, frm, rcs, ls, min (lnJoin m).length 15001, false⟩, errs, []⟩ = Sv.say ⟨c, [], 0, greet, tr0, errs, []⟩ 552 := by
      unfold Sv.ended
      exact (if_neg (by show ¬ false = true; decide)).trans (if_pos (by show c.most < min _ _; omega))
    rw [e]
  · have h4 : (lnJoin m).length ≤ c.most := by omega
    refine .inr ⟨h4, ?_⟩
    rw [h2 h4, show min (lnJoin m).length 15001 = (lnJoin m).length by omega]
    have e : Sv.ended ⟨c, [], 1, greet, ⟨true, frm, rcs, m, (lnJoin m).length, false⟩, errs, []⟩ = ⟨c, [], 2, greet, ⟨true, frm, rcs, m, (lnJoin m).length, false⟩, errs, [⟨1, 0, [], greet, frm, rcs, lnJoin m⟩]⟩ := by
      unfold Sv.ended
      exact (if_neg (by show ¬ false = true; decide)).trans (if_neg (by show ¬ c.most < _; omega))
    rw [e]
    rfl
theorem tk_text (hc : c.most ≤ 15000) (rest : Bs) : ∀ (l m : List Bs) {k : Core}, tkT c greet frm rcs errs m k → (∀ x ∈ l, x.length ≤ 999 ∧ noCr x = true) → ∃ k2, tkT c greet frm rcs errs (m ++ l) k2 ∧ (k.sv (lnJoin (l.map dotted) ++ rest) []).next = (k2.sv rest []).next
  | [], m, k, h, _ => ⟨k, by rw [List.append_nil]; exact h, rfl⟩
  | x :: l, m, k, h, hx => by
    obtain ⟨h1, h2⟩ := hx x (by simp)
    obtain ⟨k2, ha, h3⟩ := tk_line hc h x h1
    obtain ⟨k3, h4, h5⟩ := tk_text hc rest l (m ++ [x]) h3 fun y hy => hx y (by simp [hy])
    refine ⟨k3, by simpa using h4, ?_⟩
    have hp : k.phase < 2 := by obtain ⟨ls, rfl, _⟩ := h; exact (by decide : (1 : Nat) < 2)
    rw [show lnJoin ((x :: l).map dotted) ++ rest = dotted x ++ 13 :: 10 :: (lnJoin (l.map dotted) ++ rest) by simp [lnJoin], next_miss hp (noCr_dotted h2) ha, h5]
/-- The text of some lines, and what stands behind. -/
theorem tk_whole (hc : c.most ≤ 15000) (l : List Bs) (h : ∀ x ∈ l, x.length ≤ 999 ∧ noCr x = true) (rest : Bs) :
    (c.most < (lnJoin l).length ∧ ∃ e q k2, (Sv.say ⟨c, [], 0, greet, tr0, errs, []⟩ 552).queue = e :: q ∧ ((⟨c, 1, greet, ⟨true, frm, rcs, [], 0, false⟩, errs⟩ : Core).sv (lnStuff l ++ rest) []).next = (some e, k2)) ∨
    ((lnJoin l).length ≤ c.most ∧ ((⟨c, 1, greet, ⟨true, frm, rcs, [], 0, false⟩, errs⟩ : Core).sv (lnStuff l ++ rest) []).next = (some ⟨1, 0, [], greet, frm, rcs, lnJoin l⟩, (⟨c, 2, greet, ⟨true, frm, rcs, l, (lnJoin l).length, false⟩, errs⟩ : Core).sv rest [])) := by
  have h0 : tkT c greet frm rcs errs [] ⟨c, 1, greet, ⟨true, frm, rcs, [], 0, false⟩, errs⟩ := ⟨[], rfl, fun _ => rfl⟩
  obtain ⟨k2, h1, h2⟩ := tk_text hc (46 :: crlf ++ rest) l [] h0 h
  rw [List.nil_append] at h1
  rw [lnStuff_join, show lnJoin (l.map dotted) ++ 46 :: crlf ++ rest = lnJoin (l.map dotted) ++ (46 :: crlf ++ rest) by simp, h2]
  have hp : k2.phase < 2 := by obtain ⟨ls, rfl, _⟩ := h1; exact (by decide : (1 : Nat) < 2)
  rw [show (46 :: crlf ++ rest : Bs) = [46] ++ 13 :: 10 :: rest from rfl]
  rcases tk_end hc h1 with ⟨h3, h4⟩ | ⟨h3, h4⟩
  · have hq : ∃ e q, (Sv.say ⟨c, [], 0, greet, tr0, errs, []⟩ 552).queue = e :: q := by
      rcases say_bound (s := ⟨c, [], 0, greet, tr0, errs, []⟩) rfl 552 with ⟨h5, _⟩ | ⟨h5, _⟩
      all_goals
        cases hz : (Sv.say ⟨c, [], 0, greet, tr0, errs, []⟩ 552).queue with
        | nil => rw [hz] at h5; cases h5
        | cons e q => exact ⟨e, q, rfl⟩
    obtain ⟨e, q, hq⟩ := hq
    rw [hq] at h4
    exact .inl ⟨h3, e, q, _, hq, next_hit hp rfl h4⟩
  · exact .inr ⟨h3, by rw [next_hit hp rfl h4]⟩
end
def tkW (m : List Bs) : Core := ⟨cfT, 2, cdS, ⟨true, sdB, [annB, xyB], m, (lnJoin m).length, false⟩, 0⟩
def tkN : Bs := noopS ++ crlf
/-- The eighth event. -/
theorem tk_offer (l : List Bs) (h : ∀ x ∈ l, x.length ≤ 999 ∧ noCr x = true) :
    (5000 < (lnJoin l).length ∧ ∃ e, (tkS (lnStuff l ++ tkN) 7).next.1 = some e ∧ e.kind = 0 ∧ e.code = 552) ∨
    ((lnJoin l).length ≤ 5000 ∧ (tkS (lnStuff l ++ tkN) 7).next = (some ⟨1, 0, [], cdS, sdB, [annB, xyB], lnJoin l⟩, (tkW l).sv tkN [])) := by
  rw [tkS_at _ 6 (Nat.le_refl _), tkR_end, tkE]
  rcases tk_whole (c := cfT) (greet := cdS) (frm := sdB) (rcs := [annB, xyB]) (errs := 0) (by decide) l h tkN with ⟨h1, e, q, k2, h2, h3⟩ | ⟨h1, h2⟩
  · refine .inl ⟨h1, e, by rw [show tkM = ⟨cfT, 1, cdS, ⟨true, sdB, [annB, xyB], [], 0, false⟩, 0⟩ from rfl, h3], ?_⟩
    have h4 : (Sv.say ⟨cfT, [], 0, cdS, tr0, 0, []⟩ 552).queue = [evSay 552 [svWords hostS 552]] := by kernel_rfl
    rw [h4] at h2
    cases h2
    exact ⟨rfl, rfl⟩
  · exact .inr ⟨h1, h2⟩
theorem tk_waits (l : List Bs) : ((tkW l).sv tkN []).next = (none, (tkW l).sv tkN []) := next_none rfl (pull_idle (by rintro ⟨_, h⟩; exact absurd (show (2 : Nat) < 2 from h) (by decide)))
def tkV (n : Nat) (q : List Ev) : Sv := ⟨cfT, tkN, 0, cdS, tr0, n, q⟩
theorem tk_codes (l : List Bs) (e : Int) : (Sv.codes 2000 (((tkW l).sv tkN []).verdict e)).1 = [verdictCode e, 250] := by
  have e1 : ((tkW l).sv tkN []).verdict e = (tkV 0 []).say (verdictCode e) := by
    unfold Sv.verdict
    rw [if_pos (show ((tkW l).sv tkN []).phase = 2 from rfl)]
    rfl
  rw [e1]
  have h : verdictCode e = 250 ∨ verdictCode e = 554 ∨ verdictCode e = 452 := by
    unfold verdictCode
    split
    · exact .inl rfl
    split
    · exact .inr (.inl rfl)
    · exact .inr (.inr rfl)
  have a1 : (Sv.codes 2000 ((tkV 0 []).say 250)).1 = [250, 250] := by kernel_rfl
  have a2 : (Sv.codes 2000 ((tkV 0 []).say 554)).1 = [554, 250] := by kernel_rfl
  have a3 : (Sv.codes 2000 ((tkV 0 []).say 452)).1 = [452, 250] := by kernel_rfl
  rcases h with h | h | h <;> rw [h]
  · exact a1
  · exact a2
  · exact a3
end Go.Proofs.YtapenolbbofjkaaGreatDoor
