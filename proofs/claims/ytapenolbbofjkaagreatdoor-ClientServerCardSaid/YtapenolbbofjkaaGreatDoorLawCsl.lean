/- server, plainly: an event's code is a small number. No program. ClientServer, plainly: a client and a session speak with each other. No program. ClientServer: the talk. Conditions: the lengths fit; what Go's variables hold. ClientServer: its walk, with the plain law. Conditions: what Go's variables hold; the arguments fit. -/
import Derived.Test.YtapenolbbofjkaaGreatDoorSvP
import Derived.Test.YtapenolbbofjkaaGreatDoorTkP
import Derived.Test.YtapenolbbofjkaaGreatDoorClPl
import Derived.Test.YtapenolbbofjkaaGreatDoorOfP
import Derived.Test.YtapenolbbofjkaaGreatDoorClWk
import Derived.Test.YtapenolbbofjkaaGreatDoorActCf
/-! CodP -/
set_option linter.unusedSimpArgs false
set_option linter.unusedVariables false
set_option linter.unnecessarySimpa false
namespace Go.Proofs.YtapenolbbofjkaaGreatDoor

def Cod (s : Sv) : Prop := ∀ x ∈ s.queue, 0 ≤ x.code ∧ x.code ≤ 1000
variable {s : Sv}
theorem cod_say (h : Cod s) {c : Int} (hc : 0 ≤ c ∧ c ≤ 1000) : Cod (s.say c) := by
  have e1 : s.say c = if 10 ≤ (if 500 ≤ c then s.errs + 1 else s.errs) ∨ c = 221 then Sv.finis { s with errs := if 500 ≤ c then s.errs + 1 else s.errs } (if c = 221 then 221 else 421) else Sv.put { s with errs := if 500 ≤ c then s.errs + 1 else s.errs } (evSay c [svWords s.c.host c]) := rfl
  rw [e1]
  generalize (if 500 ≤ c then s.errs + 1 else s.errs) = n
  by_cases h1 : 10 ≤ n ∨ c = 221
  · rw [if_pos h1]
    have hc2 : 0 ≤ (if c = 221 then (221 : Int) else 421) ∧ (if c = 221 then (221 : Int) else 421) ≤ 1000 := by split <;> decide
    generalize (if c = 221 then (221 : Int) else 421) = d at *
    intro x hx
    have hx2 : x ∈ (s.queue ++ [evSay d [svWords s.c.host d]]) ++ [evOver] := hx
    rcases List.mem_append.1 hx2 with hx2 | hx2
    · rcases List.mem_append.1 hx2 with hx2 | hx2
      · exact h x hx2
      · rw [List.mem_singleton.1 hx2]; exact hc2
    · rw [List.mem_singleton.1 hx2]; exact ⟨by decide, by decide⟩
  · rw [if_neg h1]
    intro x hx
    have hx2 : x ∈ s.queue ++ [evSay c [svWords s.c.host c]] := hx
    rcases List.mem_append.1 hx2 with hx2 | hx2
    · exact h x hx2
    · rw [List.mem_singleton.1 hx2]; exact hc
theorem cod_did {x : Int × Sv} (h : Cod x.2) (hc : 0 ≤ x.1 ∧ x.1 ≤ 1000) : Cod (Sv.did x) := cod_say h hc
theorem cod_command (h : Cod s) (l : Bs) : Cod (s.command l) := by
  unfold Sv.command
  split
  · exact cod_say h (by decide)
  split
  · exact cod_say h (by decide)
  unfold Sv.obey
  split
  · unfold Sv.meet
    intro x hx
    generalize (if (cmParse l).1.verb = 1 then [s.c.host] else [s.c.host, sizeT ++ Go.Lib.decDigits s.c.most, eightT, pipeT]) = ls at hx
    have hx2 : x ∈ s.queue ++ [evSay 250 ls] := hx
    rcases List.mem_append.1 hx2 with hx2 | hx2
    · exact h x hx2
    · rw [List.mem_singleton.1 hx2]; exact ⟨by show (0 : Int) ≤ 250; decide, by show (250 : Int) ≤ 1000; decide⟩
  split
  · unfold Sv.from
    split
    · exact cod_did (x := (503, s)) h (by show (0 : Int) ≤ 503 ∧ (503 : Int) ≤ 1000; decide)
    split
    · exact cod_did (x := (552, s)) h (by show (0 : Int) ≤ 552 ∧ (552 : Int) ≤ 1000; decide)
    · exact cod_did (x := (250, _)) h (by show (0 : Int) ≤ 250 ∧ (250 : Int) ≤ 1000; decide)
  split
  · unfold Sv.rcpt
    split
    · exact cod_did (x := (503, s)) h (by show (0 : Int) ≤ 503 ∧ (503 : Int) ≤ 1000; decide)
    split
    · exact cod_did (x := (452, s)) h (by show (0 : Int) ≤ 452 ∧ (452 : Int) ≤ 1000; decide)
    split
    · exact cod_did (x := (550, s)) h (by show (0 : Int) ≤ 550 ∧ (550 : Int) ≤ 1000; decide)
    split
    · exact cod_did (x := (250, _)) h (by show (0 : Int) ≤ 250 ∧ (250 : Int) ≤ 1000; decide)
    · exact cod_did (x := (250, s)) h (by show (0 : Int) ≤ 250 ∧ (250 : Int) ≤ 1000; decide)
  split
  · unfold Sv.data
    split
    · exact cod_did (x := (503, s)) h (by show (0 : Int) ≤ 503 ∧ (503 : Int) ≤ 1000; decide)
    · exact cod_did (x := (354, _)) h (by show (0 : Int) ≤ 354 ∧ (354 : Int) ≤ 1000; decide)
  split
  · exact cod_say h (by decide)
  split
  · exact cod_say h (by decide)
  split
  · exact cod_say (s := s.forget) h (by decide)
  · exact cod_say h (by decide)
theorem cod_take (h : Cod s) (l : Bs) : Cod (s.take l) := by
  unfold Sv.take
  split
  · split
    · exact h
    · unfold Sv.line
      split
      · unfold Sv.ended
        split
        · exact cod_say (s := { s.forget with phase := 0 }) h (by decide)
        split
        · exact cod_say (s := { s.forget with phase := 0 }) h (by decide)
        · intro x hx
          have hx2 : x ∈ s.queue ++ [⟨1, 0, [], s.greet, s.t.frm, s.t.rcs, lnJoin s.t.lines⟩] := hx
          rcases List.mem_append.1 hx2 with hx2 | hx2
          · exact h x hx2
          · rw [List.mem_singleton.1 hx2]; exact ⟨by show (0 : Int) ≤ 0; decide, by show (0 : Int) ≤ 1000; decide⟩
      · exact h
  · split
    · exact cod_say h (by decide)
    · exact cod_command h l
theorem cod_verdict (h : Cod s) (e : Int) : Cod (s.verdict e) := by
  unfold Sv.verdict
  split
  · refine cod_say (s := { s.forget with phase := 0 }) h ?_
    unfold verdictCode
    split
    · decide
    split <;> decide
  · exact h
theorem cod_add (h : Cod s) (b : Bs) : Cod (s.add b) := by
  unfold Sv.add
  split
  · exact h
  · exact h
theorem cod_run : ∀ (n : Nat) {s : Sv}, Cod s → Cod (Sv.run n s)
  | 0, _, h => h
  | n + 1, s, h => by
    unfold Sv.run
    split
    · cases hl : lnNext s.came with
      | none => exact h
      | some q => exact cod_run n (cod_take (s := { s with came := q.2 }) h q.1)
    · exact h
theorem cod_next (h : Cod s) : Cod s.next.2 ∧ ∀ x, s.next.1 = some x → 0 ≤ x.code ∧ x.code ≤ 1000 := by
  have h1 : Cod s.pull := cod_run _ h
  unfold Sv.next
  split
  · exact ⟨h1, fun x hx => by cases hx⟩
  · rename_i x q hq
    refine ⟨fun y hy => h1 y (by rw [hq]; exact List.mem_cons_of_mem _ hy), fun y hy => ?_⟩
    cases hy
    exact h1 x (by rw [hq]; simp)
theorem cod_new (c : Cf) : Cod (svNew c) := cod_say (fun x hx => by cases hx) (by decide)
end Go.Proofs.YtapenolbbofjkaaGreatDoor

/-! CsP -/
namespace Go.Proofs.YtapenolbbofjkaaGreatDoor

/-- What a client and a session come to, n turns at most. -/
def talkM (e : Int) : Nat → Cl → Sv → List Ev × Cl × Sv
  | 0, C, s => ([], C, s)
  | n + 1, C, s => match s.next with
    | (none, t) => if t.phase = 2 then talkM e n C (t.verdict e) else ([], C, t)
    | (some x, t) => if x.kind = 2 then ([], C, t) else if x.kind = 1 then (x :: (talkM e n C t).1, (talkM e n C t).2) else talkM e n (C.take x.code).1 (t.add (C.take x.code).2)
section
variable {e : Int} {n : Nat} {C : Cl} {s t : Sv} {x : Ev} {k k2 : Core}
theorem talk_reply (h : s.next = (some x, t)) (hk : x.kind = 0) : talkM e (n + 1) C s = talkM e n (C.take x.code).1 (t.add (C.take x.code).2) := by
  conv => lhs; unfold talkM
  rw [h]
  dsimp only
  rw [if_neg (by rw [hk]; decide), if_neg (by rw [hk]; decide)]
theorem talk_offer (h : s.next = (some x, t)) (hk : x.kind = 1) : talkM e (n + 1) C s = (x :: (talkM e n C t).1, (talkM e n C t).2) := by
  conv => lhs; unfold talkM
  rw [h]
  dsimp only
  rw [if_neg (by rw [hk]; decide), if_pos hk]
theorem talk_over (h : s.next = (some x, t)) (hk : x.kind = 2) : talkM e (n + 1) C s = ([], C, t) := by
  unfold talkM
  rw [h]
  dsimp only
  rw [if_pos hk]
theorem talk_wait (h : s.next = (none, t)) (hp : t.phase = 2) : talkM e (n + 1) C s = talkM e n C (t.verdict e) := by
  conv => lhs; unfold talkM
  rw [h]
  dsimp only
  rw [if_pos hp]
theorem act1_cmd {l : Bs} {c : Cm} (hp : k.phase = 0) (hl : l.length ≤ 510) (hc : cmParse l = (c, 0)) : act1 k l = (((k.sv [] []).obey c).core, ((k.sv [] []).obey c).queue) := by
  unfold act1 Sv.take
  rw [if_neg (by show ¬ k.phase = 1; omega), if_neg (by omega)]
  unfold Sv.command
  rw [hc]
  rfl
theorem line_hit {w : Bs} {q : List Ev} (hp : k.phase < 2) (hx : noCr w = true) (ha : act1 k w = (k2, x :: q)) : (k.sv (lnJoin [w]) []).next = (some x, k2.sv [] q) := by
  rw [show lnJoin [w] = w ++ 13 :: 10 :: [] by simp [lnJoin], next_hit hp hx ha]
theorem add_sv {q : List Ev} (hp : k.phase ≠ 3) (b : Bs) : (k.sv [] q).add b = k.sv b q := by
  unfold Sv.add
  rw [if_neg (show ¬ (k.sv [] q).phase = 3 from hp)]
  rfl
theorem say_sv {code : Int} (h : (if 500 ≤ code then k.errs + 1 else k.errs) < 10) (h2 : code ≠ 221) : (k.sv [] []).say code = ({ k with errs := if 500 ≤ code then k.errs + 1 else k.errs } : Core).sv [] [evSay code [svWords k.c.host code]] := by
  have e1 : (k.sv [] []).say code = if 10 ≤ (if 500 ≤ code then k.errs + 1 else k.errs) ∨ code = 221 then Sv.finis { k.sv [] [] with errs := if 500 ≤ code then k.errs + 1 else k.errs } (if code = 221 then 221 else 421) else Sv.put { k.sv [] [] with errs := if 500 ≤ code then k.errs + 1 else k.errs } (evSay code [svWords k.c.host code]) := rfl
  rw [e1, if_neg (by rintro (h3 | h3); (exact absurd h3 (by omega)); exact h2 h3)]
  rfl
theorem did_sv {code : Int} (h : (if 500 ≤ code then k.errs + 1 else k.errs) < 10) (h2 : code ≠ 221) : Sv.did (code, k.sv [] []) = ({ k with errs := if 500 ≤ code then k.errs + 1 else k.errs } : Core).sv [] [evSay code [svWords k.c.host code]] := say_sv h h2
theorem say_bye : (k.sv [] []).say 221 = ({ k with phase := 3 } : Core).sv [] [evSay 221 [svWords k.c.host 221], evOver] := by
  have e1 : (k.sv [] []).say 221 = if 10 ≤ (if 500 ≤ (221 : Int) then k.errs + 1 else k.errs) ∨ (221 : Int) = 221 then Sv.finis { k.sv [] [] with errs := if 500 ≤ (221 : Int) then k.errs + 1 else k.errs } (if (221 : Int) = 221 then 221 else 421) else Sv.put { k.sv [] [] with errs := if 500 ≤ (221 : Int) then k.errs + 1 else k.errs } (evSay 221 [svWords k.c.host 221]) := rfl
  rw [e1, if_pos (.inr rfl)]
  rfl
end

/-! ### recipients -/
/-- The recipients that are taken, each once. -/
def wants (c : Cf) : List Mb → List Mb → List Mb
  | W, [] => W
  | W, b :: r => wants c (if c.taken b = true ∧ b ∉ W then W ++ [b] else W) r
def bads (c : Cf) : List Mb → Nat
  | [] => 0
  | b :: r => (if c.taken b = true then 0 else 1) + bads c r
def rcFresh (b : Mb) : Rc := ⟨b, 0, false⟩
def rcAft (c : Cf) (b : Mb) : Rc := if c.taken b = true then ⟨b, 0, true⟩ else ⟨b, 2, false⟩
theorem wants_len (c : Cf) : ∀ (l W : List Mb), (wants c W l).length + bads c l ≤ W.length + l.length
  | [], W => by simp [wants, bads]
  | b :: r, W => by
    have ih := wants_len c r (if c.taken b = true ∧ b ∉ W then W ++ [b] else W)
    rw [wants, bads, List.length_cons]
    by_cases h : c.taken b = true
    · rw [if_pos h]
      by_cases h2 : b ∉ W
      · rw [if_pos ⟨h, h2⟩] at ih ⊢
        rw [List.length_append] at ih
        simp only [List.length_cons, List.length_nil] at ih
        omega
      · rw [if_neg (fun h3 => h2 h3.2)] at ih ⊢
        omega
    · rw [if_neg h]
      rw [if_neg (fun h3 => h h3.1)] at ih ⊢
      omega
theorem wants_more (c : Cf) : ∀ (l W : List Mb), W ≠ [] → wants c W l ≠ []
  | [], W, h => h
  | b :: r, W, h => by
    rw [wants]
    refine wants_more c r _ ?_
    split
    · simp
    · exact h
theorem wants_any (c : Cf) : ∀ (l : List Mb), (l.map (rcAft c)).any Rc.taken = true ↔ wants c [] l ≠ []
  | [] => by simp [wants]
  | b :: r => by
    rw [wants, List.map_cons, List.any_cons]
    by_cases h : c.taken b = true
    · rw [if_pos ⟨h, by simp⟩]
      have h1 : (rcAft c b).taken = true := by unfold rcAft; rw [if_pos h]; rfl
      rw [h1]
      exact ⟨fun _ => wants_more c r _ (by simp), fun _ => by simp⟩
    · rw [if_neg (fun h3 => h h3.1)]
      have h1 : (rcAft c b).taken = false := by unfold rcAft; rw [if_neg h]; rfl
      rw [h1, Bool.false_or]
      exact wants_any c r
theorem wants_each (c : Cf) : ∀ (l W : List Mb), (∀ b ∈ W, c.taken b = true) → ∀ b ∈ wants c W l, c.taken b = true
  | [], _, h => h
  | b :: r, W, h => by
    rw [wants]
    refine wants_each c r _ ?_
    split
    · rename_i h2
      intro x hx
      rcases List.mem_append.1 hx with hx | hx
      · exact h x hx
      · rw [List.mem_singleton.1 hx]; exact h2.1
    · exact h
theorem path_len {b : Mb} (h : b = ([], []) ∨ mbMay b = true) : (mbPath b).1.length ≤ 388 := by
  unfold mbPath
  split
  · decide
  · rename_i h0
    rcases h with rfl | h
    · exact absurd rfl h0
    · rw [if_pos h]
      unfold mbMay domOk localB at h
      simp only [Bool.and_eq_true, decide_eq_true_eq] at h
      have h1 := h.1.1.1
      have h2 := h.2.1
      have h3 := quote_len b.1
      unfold mbText quotedB
      simp only [List.length_cons, List.length_append, List.length_nil]
      split
      · omega
      · simp only [List.length_cons, List.length_append, List.length_nil]
        omega
def rcptM (b : Mb) : Bs := (cmWrite ⟨4, [], b, 0, false⟩).1
theorem rcpt_facts {b : Mb} (h : mbMay b = true) : (rcptM b).length ≤ 510 ∧ noCr (rcptM b) = true ∧ cmParse (rcptM b) = (⟨4, [], b, -1, false⟩, 0) := by
  have hw := rcpt_write h
  have hl := path_len (.inr h)
  unfold rcptM
  refine ⟨?_, ?_, ?_⟩
  · rw [hw]
    simp only [List.length_append, List.length_cons, List.length_nil]
    have : toW.length ≤ 10 := by decide
    omega
  · rw [hw]
    exact noCr_shown (all_app (const_shown (by decide)) (all_app (const_shown (by decide)) (path_shown (mbPath_may (.inr h)))))
  · have h2 : cmWrite ⟨4, [], b, 0, false⟩ = ((cmWrite ⟨4, [], b, 0, false⟩).1, 0) := by rw [hw]
    have h3 := cmParse_write h2
    rw [h3]
    rfl
/-- What a session does with a recipient. -/
theorem rcpt_act {c : Cf} {gr : Bs} {fr : Mb} {W : List Mb} {errs : Nat} {b : Mb} (h : mbMay b = true) (hW : W.length < 10) (he : errs + (if c.taken b = true then 0 else 1) < 10) :
    ∃ x, act1 ⟨c, 0, gr, ⟨true, fr, W, [], 0, false⟩, errs⟩ (rcptM b) = (⟨c, 0, gr, ⟨true, fr, (if c.taken b = true ∧ b ∉ W then W ++ [b] else W), [], 0, false⟩, errs + (if c.taken b = true then 0 else 1)⟩, [x]) ∧ x.kind = 0 ∧ x.code = if c.taken b = true then 250 else 550 := by
  obtain ⟨h1, _, h3⟩ := rcpt_facts h
  rw [act1_cmd rfl h1 h3]
  have ho : ∀ s : Sv, s.obey ⟨4, [], b, -1, false⟩ = Sv.did (s.rcpt ⟨4, [], b, -1, false⟩) := fun s => rfl
  rw [ho]
  have hr : Sv.rcpt ((⟨c, 0, gr, ⟨true, fr, W, [], 0, false⟩, errs⟩ : Core).sv [] []) ⟨4, [], b, -1, false⟩ = if c.taken b = true then (250, (⟨c, 0, gr, ⟨true, fr, (if c.taken b = true ∧ b ∉ W then W ++ [b] else W), [], 0, false⟩, errs⟩ : Core).sv [] []) else (550, (⟨c, 0, gr, ⟨true, fr, W, [], 0, false⟩, errs⟩ : Core).sv [] []) := by
    unfold Sv.rcpt
    rw [if_neg (show ¬ ((⟨c, 0, gr, ⟨true, fr, W, [], 0, false⟩, errs⟩ : Core).sv [] []).t.opened = false from fun h => by cases h), if_neg (show ¬ (10 ≤ ((⟨c, 0, gr, ⟨true, fr, W, [], 0, false⟩, errs⟩ : Core).sv [] []).t.rcs.length ∧ _) from fun h => by have h5 : 10 ≤ W.length := h.1; omega)]
    by_cases ht : c.taken b = true
    · rw [if_neg (show ¬ ((⟨c, 0, gr, ⟨true, fr, W, [], 0, false⟩, errs⟩ : Core).sv [] []).c.taken b = false from fun h => by have h6 : c.taken b = false := h; rw [ht] at h6; cases h6), if_pos ht]
      by_cases hm : b ∉ W
      · rw [if_pos (show b ∉ ((⟨c, 0, gr, ⟨true, fr, W, [], 0, false⟩, errs⟩ : Core).sv [] []).t.rcs from hm), if_pos ⟨ht, hm⟩]
        rfl
      · rw [if_neg (show ¬ b ∉ ((⟨c, 0, gr, ⟨true, fr, W, [], 0, false⟩, errs⟩ : Core).sv [] []).t.rcs from hm), if_neg (fun h => hm h.2)]
    · rw [if_pos (show ((⟨c, 0, gr, ⟨true, fr, W, [], 0, false⟩, errs⟩ : Core).sv [] []).c.taken b = false from (by simpa using ht : c.taken b = false)), if_neg ht]
  rw [hr]
  by_cases ht : c.taken b = true
  · rw [if_pos ht] at he
    have e1 := did_sv (k := ⟨c, 0, gr, ⟨true, fr, (if c.taken b = true ∧ b ∉ W then W ++ [b] else W), [], 0, false⟩, errs⟩) (code := 250) (by rw [if_neg (by decide)]; exact he) (by decide)
    rw [if_neg (by decide : ¬ (500 : Int) ≤ 250)] at e1
    rw [if_pos ht, if_pos ht, if_pos ht, e1]
    exact ⟨_, rfl, rfl, rfl⟩
  · rw [if_neg ht] at he
    have e1 := did_sv (k := ⟨c, 0, gr, ⟨true, fr, W, [], 0, false⟩, errs⟩) (code := 550) (by rw [if_pos (by decide)]; exact he) (by decide)
    rw [if_pos (by decide : (500 : Int) ≤ 550)] at e1
    have hn : (if c.taken b = true ∧ b ∉ W then W ++ [b] else W) = W := if_neg fun h => ht h.1
    rw [if_neg ht, if_neg ht, if_neg ht, hn, e1]
    exact ⟨_, rfl, rfl, rfl⟩
theorem modify_mid (d : List Rc) (x : Rc) (r : List Rc) (f : Rc → Rc) : (d ++ x :: r).modify d.length f = d ++ f x :: r := by
  induction d with
  | nil => rfl
  | cons y d ih => simp [List.modify_succ_cons, ih]
/-- A client that is told what became of the recipient that it named. -/
theorem told_take {c : Cf} {host : Bs} {fr : Mb} {body : Bs} (d : List Rc) (b : Mb) (r : List Rc) : (⟨host, fr, d ++ rcFresh b :: r, body, 4, d.length⟩ : Cl).take (if c.taken b = true then 250 else 550) = (⟨host, fr, d ++ rcAft c b :: r, body, 4, d.length + 1⟩ : Cl).name := by
  unfold Cl.take
  rw [if_pos rfl]
  unfold Cl.named
  dsimp only
  rw [modify_mid]
  have h1 : (rcFresh b).told (classC (if c.taken b = true then 250 else 550)) = rcAft c b := by
    unfold rcAft
    by_cases h : c.taken b = true
    · rw [if_pos h, if_pos h]; rfl
    · rw [if_neg h, if_neg h]; rfl
  rw [h1]
theorem name_mid {host : Bs} {fr : Mb} {body : Bs} (d : List Rc) (b : Mb) (r : List Rc) : (⟨host, fr, d ++ rcFresh b :: r, body, 4, d.length⟩ : Cl).name = (⟨host, fr, d ++ rcFresh b :: r, body, 4, d.length⟩, lnJoin [rcptM b]) := by
  unfold Cl.name
  rw [show (d ++ rcFresh b :: r)[d.length]? = some (rcFresh b) by simp]
  rfl
theorem rc_go (e : Int) (c : Cf) (gr host : Bs) (fr : Mb) (body : Bs) : ∀ (r : List Mb) (b : Mb) (d : List Rc) (W : List Mb) (errs n : Nat), (∀ x ∈ b :: r, mbMay x = true) → W.length ≤ d.length → d.length + (r.length + 1) ≤ 10 → errs + bads c (b :: r) ≤ 8 →
    talkM e (n + (r.length + 1)) ⟨host, fr, d ++ (b :: r).map rcFresh, body, 4, d.length⟩ ((⟨c, 0, gr, ⟨true, fr, W, [], 0, false⟩, errs⟩ : Core).sv (lnJoin [rcptM b]) []) =
      talkM e n (⟨host, fr, d ++ (b :: r).map (rcAft c), body, 4, d.length + (r.length + 1)⟩ : Cl).name.1 ((⟨c, 0, gr, ⟨true, fr, wants c W (b :: r), [], 0, false⟩, errs + bads c (b :: r)⟩ : Core).sv (⟨host, fr, d ++ (b :: r).map (rcAft c), body, 4, d.length + (r.length + 1)⟩ : Cl).name.2 [])
  | r, b, d, W, errs, n, hm, hW, hd, he => by
    have hb := hm b (by simp)
    have hbd : bads c (b :: r) = (if c.taken b = true then 0 else 1) + bads c r := rfl
    obtain ⟨x, hx, hk, hc⟩ := rcpt_act (c := c) (gr := gr) (fr := fr) (W := W) (errs := errs) hb (by omega) (by omega)
    have hn := line_hit (k := ⟨c, 0, gr, ⟨true, fr, W, [], 0, false⟩, errs⟩) (by show (0 : Nat) < 2; decide) (rcpt_facts hb).2.1 hx
    rw [show n + (r.length + 1) = (n + r.length) + 1 from rfl, talk_reply hn hk, hc, List.map_cons, told_take, add_sv (by show (0 : Nat) ≠ 3; decide)]
    cases r with
    | nil =>
      simp only [List.map_nil, List.map_cons, List.length_nil, Nat.add_zero, Nat.zero_add, wants, bads]
    | cons b2 r =>
      have e1 : d ++ rcAft c b :: (b2 :: r).map rcFresh = (d ++ [rcAft c b]) ++ rcFresh b2 :: r.map rcFresh := by simp
      have e2 : d.length + 1 = (d ++ [rcAft c b]).length := by simp
      rw [e1, e2, name_mid]
      have ih := rc_go e c gr host fr body r b2 (d ++ [rcAft c b]) (if c.taken b = true ∧ b ∉ W then W ++ [b] else W) (errs + (if c.taken b = true then 0 else 1)) n (fun y hy => hm y (List.mem_cons_of_mem _ hy)) (by
        rw [List.length_append]
        split
        · rw [List.length_append]; simp only [List.length_cons, List.length_nil]; omega
        · simp only [List.length_cons, List.length_nil]; omega) (by rw [List.length_append]; simp only [List.length_cons, List.length_nil] at hd ⊢; omega) (by rw [hbd] at he; omega)
      rw [List.map_cons] at ih
      dsimp only
      rw [show n + (b2 :: r).length = n + (r.length + 1) from rfl, ih]
      have e3 : (d ++ [rcAft c b]) ++ (b2 :: r).map (rcAft c) = d ++ rcAft c b :: (b2 :: r).map (rcAft c) := by simp
      have e4 : (d ++ [rcAft c b]).length + (r.length + 1) = d.length + ((b2 :: r).length + 1) := by simp; omega
      have e5 : errs + (if c.taken b = true then 0 else 1) + bads c (b2 :: r) = errs + bads c (b :: b2 :: r) := by rw [show bads c (b :: b2 :: r) = (if c.taken b = true then 0 else 1) + bads c (b2 :: r) from rfl]; omega
      rw [e3, e4, e5]
      rfl

/-! ### the whole talk -/
def hostY : Bs := [109, 120, 46, 121]
def hxB : Bs := [104, 46, 120]
def cfY (rules : List Rl) : Cf := ⟨hostY, 15000, rules, []⟩
def ehloW : Bs := [69, 72, 76, 79, 32, 104, 46, 120]
theorem ehlo_write : cmWrite ⟨2, hxB, ([], []), 0, false⟩ = (ehloW, 0) := by kernel_rfl
theorem ehlo_parse : cmParse ehloW = (⟨2, hxB, ([], []), -1, false⟩, 0) := by kernel_rfl
theorem data_parse : cmParse [68, 65, 84, 65] = (⟨5, [], ([], []), -1, false⟩, 0) := by kernel_rfl
theorem quit_parse : cmParse [81, 85, 73, 84] = (⟨8, [], ([], []), -1, false⟩, 0) := by kernel_rfl
theorem ehlo_act (c : Cf) : ∃ x, act1 ⟨c, 0, [], tr0, 0⟩ ehloW = (⟨c, 0, hxB, tr0, 0⟩, [x]) ∧ x.kind = 0 ∧ x.code = 250 := by
  rw [act1_cmd rfl (by decide) ehlo_parse]
  exact ⟨_, rfl, rfl, rfl⟩
def mailM (fr : Mb) (n : Nat) : Bs := (cmWrite ⟨3, [], fr, n, false⟩).1
theorem mail_facts {fr : Mb} {n : Nat} (h : fr = ([], []) ∨ mbMay fr = true) (hn : n ≤ 4096) : (mailM fr n).length ≤ 510 ∧ noCr (mailM fr n) = true ∧ cmParse (mailM fr n) = (⟨3, [], fr, n, false⟩, 0) := by
  have hp := mbPath_may h
  have hw := mail_write (z := (n : Int)) hp (by omega) (by omega)
  have hl := path_len h
  have hd : (Lib.decDigits (n : Int).toNat).length ≤ 100 := by
    rw [Int.toNat_natCast]
    exact dec_short n (by omega)
  unfold mailM
  refine ⟨?_, ?_, ?_⟩
  · rw [hw]
    rw [if_pos (by omega)]
    simp only [List.length_append, List.length_cons, List.length_nil]
    have h1 : fromW.length ≤ 6 := by decide
    have h2 : sizeW.length ≤ 6 := by decide
    omega
  · rw [hw]
    refine noCr_shown (all_app (const_shown (by decide)) (all_app (all_app (const_shown (by decide)) (path_shown hp)) ?_))
    rw [if_pos (by omega)]
    exact all_app (const_shown (by decide)) fun c hc => digit_shown c (dec_dig _ c hc)
  · have h2 : cmWrite ⟨3, [], fr, n, false⟩ = ((cmWrite ⟨3, [], fr, n, false⟩).1, 0) := by rw [hw]
    rw [cmParse_write h2]
    rfl
theorem mail_act {rules : List Rl} {fr : Mb} {n : Nat} (h : fr = ([], []) ∨ mbMay fr = true) (hn : n ≤ 4096) : ∃ x, act1 ⟨cfY rules, 0, hxB, tr0, 0⟩ (mailM fr n) = (⟨cfY rules, 0, hxB, ⟨true, fr, [], [], 0, false⟩, 0⟩, [x]) ∧ x.kind = 0 ∧ x.code = 250 := by
  obtain ⟨h1, _, h3⟩ := mail_facts h hn
  rw [act1_cmd rfl h1 h3]
  have ho : ∀ s : Sv, s.obey ⟨3, [], fr, n, false⟩ = Sv.did (s.from ⟨3, [], fr, n, false⟩) := fun s => rfl
  rw [ho]
  have hf : Sv.from ((⟨cfY rules, 0, hxB, tr0, 0⟩ : Core).sv [] []) ⟨3, [], fr, n, false⟩ = (250, (⟨cfY rules, 0, hxB, ⟨true, fr, [], [], 0, false⟩, 0⟩ : Core).sv [] []) := by
    unfold Sv.from
    rw [if_neg (show ¬ (((⟨cfY rules, 0, hxB, tr0, 0⟩ : Core).sv [] []).greet = [] ∨ ((⟨cfY rules, 0, hxB, tr0, 0⟩ : Core).sv [] []).t.opened = true) from fun h => by rcases h with h | h <;> cases h),
      if_neg (show ¬ ((((⟨cfY rules, 0, hxB, tr0, 0⟩ : Core).sv [] []).c.most : Int) < (⟨3, [], fr, n, false⟩ : Cm).size) from fun h => by have h2 : ((15000 : Nat) : Int) < (n : Int) := h; omega)]
    rfl
  have e1 := did_sv (k := ⟨cfY rules, 0, hxB, ⟨true, fr, [], [], 0, false⟩, 0⟩) (code := 250) (by rw [if_neg (by decide)]; show (0 : Nat) < 10; decide) (by decide)
  rw [if_neg (by decide : ¬ (500 : Int) ≤ 250)] at e1
  rw [hf, e1]
  exact ⟨_, rfl, rfl, rfl⟩
theorem data_act {c : Cf} {fr : Mb} {W : List Mb} {errs : Nat} (hW : W ≠ []) (he : errs < 10) : ∃ x, act1 ⟨c, 0, hxB, ⟨true, fr, W, [], 0, false⟩, errs⟩ [68, 65, 84, 65] = (⟨c, 1, hxB, ⟨true, fr, W, [], 0, false⟩, errs⟩, [x]) ∧ x.kind = 0 ∧ x.code = 354 := by
  rw [act1_cmd rfl (by decide) data_parse]
  have ho : ∀ s : Sv, s.obey ⟨5, [], ([], []), -1, false⟩ = Sv.did s.data := fun s => rfl
  rw [ho]
  have hf : Sv.data ((⟨c, 0, hxB, ⟨true, fr, W, [], 0, false⟩, errs⟩ : Core).sv [] []) = (354, (⟨c, 1, hxB, ⟨true, fr, W, [], 0, false⟩, errs⟩ : Core).sv [] []) := by
    unfold Sv.data
    rw [if_neg (show ¬ (((⟨c, 0, hxB, ⟨true, fr, W, [], 0, false⟩, errs⟩ : Core).sv [] []).t.opened = false ∨ ((⟨c, 0, hxB, ⟨true, fr, W, [], 0, false⟩, errs⟩ : Core).sv [] []).t.rcs = []) from fun h => by
      rcases h with h | h
      · cases h
      · exact hW h)]
    rfl
  have e1 := did_sv (k := ⟨c, 1, hxB, ⟨true, fr, W, [], 0, false⟩, errs⟩) (code := 354) (by rw [if_neg (by decide)]; exact he) (by decide)
  rw [if_neg (by decide : ¬ (500 : Int) ≤ 354)] at e1
  rw [hf, e1]
  exact ⟨_, rfl, rfl, rfl⟩
theorem quit_act {k : Core} (hp : k.phase = 0) : ∃ x, act1 k [81, 85, 73, 84] = ({ k with phase := 3 }, [x, evOver]) ∧ x.kind = 0 ∧ x.code = 221 := by
  rw [act1_cmd hp (by decide) quit_parse]
  have ho : ∀ s : Sv, s.obey ⟨8, [], ([], []), -1, false⟩ = s.say 221 := fun s => rfl
  rw [ho, say_bye]
  exact ⟨_, rfl, rfl, rfl⟩
/-- A client that leaves, and the session that it leaves. -/
theorem talk_quit (e : Int) (m : Nat) (C : Cl) (hC : C.phase = 7) (k : Core) (hp : k.phase = 0) : ∃ t, talkM e (m + 2) C (k.sv (lnJoin [(cmWrite ⟨8, [], ([], []), 0, false⟩).1]) []) = ([], { C with phase := 8 }, t) ∧ t.phase = 3 := by
  obtain ⟨x, hx, hk, hc⟩ := quit_act hp
  have hq : (cmWrite ⟨8, [], ([], []), 0, false⟩).1 = [81, 85, 73, 84] := by rw [quit_write]
  rw [hq, talk_reply (line_hit (by omega) (by decide) hx) hk, hc]
  have ht : C.take 221 = ({ C with phase := 8 }, []) := by
    unfold Cl.take
    rw [if_neg (by rw [hC]; decide), if_neg (by rw [hC]; decide), if_neg (by rw [hC]; decide), if_pos (.inl hC)]
  rw [ht]
  have ha : (({ k with phase := 3 } : Core).sv [] [evOver]).add [] = ({ k with phase := 3 } : Core).sv [] [evOver] := by
    unfold Sv.add
    rw [if_pos (show (({ k with phase := 3 } : Core).sv [] [evOver]).phase = 3 from rfl)]
  dsimp only
  rw [ha]
  refine ⟨({ k with phase := 3 } : Core).sv [] [], ?_, rfl⟩
  exact talk_over (next_some rfl) rfl
def lastM (e : Int) : Int := if e = 0 then 1 else if e = 1 ∨ e = 2 ∨ e = 5 then 2 else 0
/-- What becomes of a recipient. -/
def endM (c : Cf) (e : Int) (b : Mb) : Int := if c.taken b = true then lastM e else 2
/-- The end of a text: the verdict, and the farewell. -/
theorem talk_text (e : Int) (m : Nat) (C : Cl) (hC : C.phase = 6) (k : Core) (hp : k.phase = 2) (he : k.errs ≤ 8) : ∃ C2 t, talkM e (m + 4) C (k.sv [] []) = ([], C2, t) ∧ t.phase = 3 ∧ C2.tos = (C.tos.map fun r => if r.taken then { r with state := lastM e } else r) := by
  have hn : (k.sv [] []).next = (none, k.sv [] []) := next_none rfl (pull_idle (by rintro ⟨_, h⟩; have h2 : k.phase < 2 := h; omega))
  rw [talk_wait hn hp]
  have hv : (k.sv [] []).verdict e = (({ k with phase := 0, t := tr0 } : Core).sv [] []).say (verdictCode e) := by
    unfold Sv.verdict
    rw [if_pos (show (k.sv [] []).phase = 2 from hp)]
    rfl
  have hc : verdictCode e = 250 ∨ verdictCode e = 554 ∨ verdictCode e = 452 := by
    unfold verdictCode
    split
    · exact .inl rfl
    split
    · exact .inr (.inl rfl)
    · exact .inr (.inr rfl)
  have hs := say_sv (k := { k with phase := 0, t := tr0 }) (code := verdictCode e) (by show (if 500 ≤ verdictCode e then k.errs + 1 else k.errs) < 10; split <;> omega) (by rcases hc with h | h | h <;> rw [h] <;> decide)
  rw [hv, hs]
  generalize hk2 : ({ ({ k with phase := 0, t := tr0 } : Core) with errs := if 500 ≤ verdictCode e then ({ k with phase := 0, t := tr0 } : Core).errs + 1 else ({ k with phase := 0, t := tr0 } : Core).errs } : Core) = k2
  have hp2 : k2.phase = 0 := by rw [← hk2]
  rw [show m + 3 = (m + 2) + 1 from rfl, talk_reply (next_some rfl) rfl]
  show ∃ C2 t, talkM e (m + 2) (C.take (verdictCode e)).1 ((k2.sv [] []).add (C.take (verdictCode e)).2) = _ ∧ _
  have htk : C.take (verdictCode e) = ((if classC (verdictCode e) = 2 then C.become 1 Rc.taken else C).fail (classC (verdictCode e)) Rc.taken) := by
    unfold Cl.take
    rw [if_neg (by rw [hC]; decide), if_neg (by rw [hC]; decide), if_pos hC]
  have hfin : ∃ C3 : Cl, C3.phase = 7 ∧ C.take (verdictCode e) = (C3, lnJoin [(cmWrite ⟨8, [], ([], []), 0, false⟩).1]) ∧ C3.tos = (C.tos.map fun r => if r.taken then { r with state := lastM e } else r) := by
    rw [htk]
    by_cases h0 : e = 0
    · have hv0 : verdictCode e = 250 := if_pos h0
      have hl0 : lastM e = 1 := if_pos h0
      rw [hv0, hl0, if_pos (by decide)]
      unfold Cl.fail
      rw [if_neg (by decide)]
      exact ⟨_, rfl, rfl, rfl⟩
    · by_cases h1 : e = 1 ∨ e = 2 ∨ e = 5
      · have hv0 : verdictCode e = 554 := (if_neg h0).trans (if_pos h1)
        have hl0 : lastM e = 2 := (if_neg h0).trans (if_pos h1)
        rw [hv0, hl0, if_neg (by decide)]
        unfold Cl.fail
        rw [if_pos (by decide)]
        exact ⟨_, rfl, rfl, rfl⟩
      · have hv0 : verdictCode e = 452 := (if_neg h0).trans (if_neg h1)
        have hl0 : lastM e = 0 := (if_neg h0).trans (if_neg h1)
        rw [hv0, hl0, if_neg (by decide)]
        unfold Cl.fail
        rw [if_neg (by decide)]
        refine ⟨_, rfl, rfl, ?_⟩
        show C.tos = _
        conv => lhs; rw [← List.map_id C.tos]
        refine List.map_congr_left fun r _ => ?_
        by_cases hr : r.taken = true
        · rw [if_pos hr]
          unfold Rc.taken at hr
          simp only [Bool.and_eq_true, beq_iff_eq] at hr
          obtain ⟨b, st, ac⟩ := r
          dsimp only at hr
          rw [hr.1]
          rfl
        · rw [if_neg hr]
          rfl
  obtain ⟨C3, h3, h4, h5⟩ := hfin
  rw [h4, add_sv (by omega)]
  obtain ⟨t, h6, h7⟩ := talk_quit e m C3 h3 k2 hp2
  exact ⟨_, t, h6, h7, h5⟩
theorem take_early {C : Cl} (h0 : 0 ≤ C.phase) (h : C.phase < 4) (code : Int) : C.take code = C.opening (classC code) := by
  unfold Cl.take
  rw [if_neg (by omega), if_neg (by omega), if_neg (by omega), if_neg (by omega)]
theorem open0 {C : Cl} (h : C.phase = 0) : C.opening 2 = C.greet 2 1 := if_pos ⟨h, rfl⟩
theorem open1 {C : Cl} (h : C.phase = 1) : C.opening 2 = C.mail C.body.length := (if_neg fun h2 => absurd h2.1 (by omega)).trans (if_pos ⟨h, rfl⟩)
theorem open3 {C : Cl} (h : C.phase = 3) : C.opening 2 = C.name := by
  unfold Cl.opening
  rw [if_neg (fun h2 => absurd h2.1 (by omega)), if_neg (fun h2 => absurd h2.1 (by omega)), if_neg (fun h2 => absurd h2.1 (by omega)), if_neg (by omega), if_neg (fun h2 => absurd h2.1 (by omega)), if_pos ⟨h, rfl⟩]
theorem class_vals : classC 220 = 2 ∧ classC 250 = 2 ∧ classC 354 = 3 := by decide
theorem take_open {fr : Mb} {T : List Rc} {body : Bs} : (⟨hxB, fr, T, body, 0, 0⟩ : Cl).take 220 = (⟨hxB, fr, T, body, 1, 0⟩, lnJoin [ehloW]) := by
  rw [take_early (show (0 : Int) ≤ 0 from Int.le_refl _) (show (0 : Int) < 4 by decide), class_vals.1, open0 rfl]
  unfold Cl.greet Cl.send
  rw [ehlo_write]
theorem take_mail {fr : Mb} {T : List Rc} {body : Bs} : (⟨hxB, fr, T, body, 1, 0⟩ : Cl).take 250 = (⟨hxB, fr, T, body, 3, 0⟩, lnJoin [mailM fr body.length]) := by
  rw [take_early (show (0 : Int) ≤ 1 by decide) (show (1 : Int) < 4 by decide), class_vals.2.1, open1 rfl]
  rfl
theorem take_name {fr : Mb} {T : List Rc} {body : Bs} : (⟨hxB, fr, T, body, 3, 0⟩ : Cl).take 250 = (⟨hxB, fr, T, body, 3, 0⟩ : Cl).name := by
  rw [take_early (show (0 : Int) ≤ 3 by decide) (show (3 : Int) < 4 by decide), class_vals.2.1, open3 rfl]
theorem take_data {fr : Mb} {T : List Rc} {body : Bs} {n : Nat} : (⟨hxB, fr, T, body, 5, n⟩ : Cl).take 354 = (⟨hxB, fr, T, body, 6, n⟩, lnStuff (lnSplit body).1) := by
  unfold Cl.take
  rw [if_neg (show ¬ ((5 : Int) = 4) by decide), if_pos rfl, class_vals.2.2, if_pos rfl]
theorem cs_spec (e : Int) (rules : List Rl) (fr : Mb) (tos : List Mb) (body : Bs) (hfr : fr = ([], []) ∨ mbMay fr = true) (hm : ∀ x ∈ tos, mbMay x = true) (h1 : 1 ≤ tos.length) (h10 : tos.length ≤ 10) (hb : bodyOk body = true) (hbl : body.length ≤ 4096)
    (hbad : tos.length - (wants (cfY rules) [] tos).length ≤ 8) :
    ∃ C2 t, talkM e 100 ⟨hxB, fr, tos.map rcFresh, body, 0, 0⟩ (svNew (cfY rules)) = (if wants (cfY rules) [] tos = [] then [] else [⟨1, 0, [], hxB, fr, wants (cfY rules) [] tos, body⟩], C2, t) ∧ C2.tos.map Rc.state = tos.map (endM (cfY rules) e) ∧ t.phase = 3 := by
  have hbd : bads (cfY rules) tos ≤ 8 := by
    have := wants_len (cfY rules) tos []
    simp only [List.length_nil] at this
    omega
  obtain ⟨b, r, rfl⟩ : ∃ b r, tos = b :: r := by
    cases tos with
    | nil => simp at h1
    | cons b r => exact ⟨b, r, rfl⟩
  rw [List.length_cons] at h10
  have hs0 : svNew (cfY rules) = (⟨cfY rules, 0, [], tr0, 0⟩ : Core).sv [] [evSay 220 [svWords hostY 220]] := by
    have h := say_sv (k := ⟨cfY rules, 0, [], tr0, 0⟩) (code := 220) (by rw [if_neg (by decide)]; show (0 : Nat) < 10; decide) (by decide)
    rw [if_neg (by decide : ¬ (500 : Int) ≤ 220)] at h
    exact h
  obtain ⟨x2, ha2, hk2, hc2⟩ := ehlo_act (cfY rules)
  obtain ⟨x3, ha3, hk3, hc3⟩ := mail_act (rules := rules) hfr hbl
  rw [hs0, show (100 : Nat) = 99 + 1 from rfl, talk_reply (next_some rfl) rfl]
  show ∃ C2 t, talkM e 99 ((⟨hxB, fr, (b :: r).map rcFresh, body, 0, 0⟩ : Cl).take 220).1 (((⟨cfY rules, 0, [], tr0, 0⟩ : Core).sv [] []).add ((⟨hxB, fr, (b :: r).map rcFresh, body, 0, 0⟩ : Cl).take 220).2) = _ ∧ _
  rw [take_open, add_sv (by show (0 : Nat) ≠ 3; decide), show (99 : Nat) = 98 + 1 from rfl, talk_reply (line_hit (by show (0 : Nat) < 2; decide) (by decide) ha2) hk2, hc2, take_mail, add_sv (by show (0 : Nat) ≠ 3; decide),
    show (98 : Nat) = 97 + 1 from rfl, talk_reply (line_hit (by show (0 : Nat) < 2; decide) (mail_facts hfr hbl).2.1 ha3) hk3, hc3, take_name, add_sv (by show (0 : Nat) ≠ 3; decide)]
  have hnm : (⟨hxB, fr, (b :: r).map rcFresh, body, 3, 0⟩ : Cl).name = (⟨hxB, fr, [] ++ (b :: r).map rcFresh, body, 4, ([] : List Rc).length⟩, lnJoin [rcptM b]) := rfl
  obtain ⟨m, hmn⟩ : ∃ m, 97 = (m + 6) + (r.length + 1) := ⟨97 - 6 - (r.length + 1), by omega⟩
  rw [hnm, hmn]
  dsimp only
  rw [rc_go e (cfY rules) hxB hxB fr body r b [] [] 0 (m + 6) hm (Nat.le_refl _) (by simp only [List.length_nil]; omega) (by omega)]
  rw [List.nil_append]
  simp only [List.length_nil, Nat.zero_add]
  generalize bads (cfY rules) (b :: r) = bd at *
  have hany := wants_any (cfY rules) (b :: r)
  have hnone : ((b :: r).map (rcAft (cfY rules)))[r.length + 1]? = none := List.getElem?_eq_none (by simp)
  by_cases hw : wants (cfY rules) [] (b :: r) = []
  · have ha : ((b :: r).map (rcAft (cfY rules))).any Rc.taken = false := by
      cases h : ((b :: r).map (rcAft (cfY rules))).any Rc.taken with
      | false => rfl
      | true => exact absurd hw (hany.1 h)
    have hn2 : (⟨hxB, fr, (b :: r).map (rcAft (cfY rules)), body, 4, r.length + 1⟩ : Cl).name = (⟨hxB, fr, (b :: r).map (rcAft (cfY rules)), body, 7, r.length + 1⟩, lnJoin [(cmWrite ⟨8, [], ([], []), 0, false⟩).1]) := by
      unfold Cl.name
      rw [hnone, ha]
      rfl
    rw [hn2, if_pos hw]
    obtain ⟨t, h6, h7⟩ := talk_quit e (m + 4) ⟨hxB, fr, (b :: r).map (rcAft (cfY rules)), body, 7, r.length + 1⟩ rfl ⟨cfY rules, 0, hxB, ⟨true, fr, wants (cfY rules) [] (b :: r), [], 0, false⟩, bd⟩ rfl
    refine ⟨_, t, h6, ?_, h7⟩
    show ((b :: r).map (rcAft (cfY rules))).map Rc.state = _
    rw [List.map_map]
    refine List.map_congr_left fun y hy => ?_
    have hy2 : (rcAft (cfY rules) y).taken = false := by
      have := List.any_eq_false.1 ha (rcAft (cfY rules) y) (List.mem_map.2 ⟨y, hy, rfl⟩)
      simpa using this
    show (rcAft (cfY rules) y).state = endM (cfY rules) e y
    unfold rcAft at hy2 ⊢
    unfold endM
    by_cases ht : (cfY rules).taken y = true
    · rw [if_pos ht] at hy2
      cases hy2
    · rw [if_neg ht, if_neg ht]
  · have ha : ((b :: r).map (rcAft (cfY rules))).any Rc.taken = true := hany.2 hw
    have hn2 : (⟨hxB, fr, (b :: r).map (rcAft (cfY rules)), body, 4, r.length + 1⟩ : Cl).name = (⟨hxB, fr, (b :: r).map (rcAft (cfY rules)), body, 5, r.length + 1⟩, lnJoin [[68, 65, 84, 65]]) := by
      unfold Cl.name
      rw [hnone, ha]
      show Cl.send _ _ _ = _
      unfold Cl.send
      rw [data_write]
    rw [hn2, if_neg hw]
    dsimp only
    generalize wants (cfY rules) [] (b :: r) = W at *
    obtain ⟨x4, ha4, hk4, hc4⟩ := data_act (c := cfY rules) (fr := fr) (W := W) (errs := bd) hw (by omega)
    rw [show m + 6 = (m + 5) + 1 from rfl, talk_reply (line_hit (by show (0 : Nat) < 2; decide) (by decide) ha4) hk4, hc4, take_data, add_sv (by show (1 : Nat) ≠ 3; decide)]
    dsimp only
    obtain ⟨l1, l2, l3, _⟩ := body_lines hb
    have hlen : ∀ x ∈ (crR body).1, x.length ≤ 999 ∧ noCr x = true := fun x hx => by
      unfold bodyOk at hb
      rw [lnSplit_eq] at hb
      simp only [Bool.and_eq_true, List.all_eq_true, decide_eq_true_eq] at hb
      have := hb.2 x hx
      exact ⟨by omega, l3 x hx⟩
    have htw := tk_whole (c := cfY rules) (greet := hxB) (frm := fr) (rcs := W) (errs := bd) (show (15000 : Nat) ≤ 15000 from Nat.le_refl _) (crR body).1 hlen []
    rw [List.append_nil, l2] at htw
    rcases htw with ⟨h8, _⟩ | ⟨_, h9⟩
    · have h10 : (15000 : Nat) < body.length := h8
      omega
    · rw [lnSplit_eq, show m + 5 = (m + 4) + 1 from rfl, talk_offer h9 rfl]
      obtain ⟨C2, t, g1, g2, g3⟩ := talk_text e m ⟨hxB, fr, (b :: r).map (rcAft (cfY rules)), body, 6, r.length + 1⟩ rfl ⟨cfY rules, 2, hxB, ⟨true, fr, W, (crR body).1, body.length, false⟩, bd⟩ rfl (by show bd ≤ 8; omega)
      rw [g1]
      refine ⟨C2, t, rfl, ?_, g2⟩
      rw [g3]
      show (((b :: r).map (rcAft (cfY rules))).map _).map Rc.state = _
      rw [List.map_map, List.map_map]
      refine List.map_congr_left fun y _ => ?_
      show (if (rcAft (cfY rules) y).taken then { rcAft (cfY rules) y with state := lastM e } else rcAft (cfY rules) y).state = endM (cfY rules) e y
      unfold rcAft endM
      by_cases ht : (cfY rules).taken y = true
      · rw [if_pos ht, if_pos ht]
        rfl
      · rw [if_neg ht, if_neg ht]
        rfl
end Go.Proofs.YtapenolbbofjkaaGreatDoor

/-! CsW -/
namespace Go.Proofs.YtapenolbbofjkaaGreatDoor
open Go.RowKit Go.Maps

theorem stuff_len : ∀ l : List Bs, (lnStuff l).length ≤ (lnJoin l).length + l.length + 3
  | [] => by simp [lnStuff]
  | x :: l => by
    have ih := stuff_len l
    rw [lnStuff_join] at ih ⊢
    have h4 : (dotted x).length ≤ x.length + 1 := by
      unfold dotted
      rw [List.length_append]
      split <;> simp <;> omega
    rw [show lnJoin (x :: l) = x ++ crlf ++ lnJoin l by simp [lnJoin], List.map_cons, show lnJoin (dotted x :: l.map dotted) = dotted x ++ crlf ++ lnJoin (l.map dotted) by simp [lnJoin]]
    simp only [List.length_append, List.length_cons, List.length_nil] at ih ⊢
    omega
theorem take_short {C : Cl} (h : C.Ok) (code : Int) : (C.take code).2.length ≤ 1000000 := by
  have hb := h.body
  have hq : ∀ D : Cl, D.leave.2.length ≤ 1000000 := fun D => by
    have := cmSend_len (x := ⟨8, [], ([], []), 0, false⟩) ⟨by simp, by simp, by simp, by decide, by decide⟩
    show (lnJoin [_]).length ≤ _
    omega
  have hf : ∀ (D : Cl) (cls : Int) (p : Rc → Bool), (D.fail cls p).2.length ≤ 1000000 := fun D cls p => hq _
  have hg : ∀ (v ph : Int), (C.greet v ph).2.length ≤ 1000000 := fun v ph => by
    have := cmSend_len (x := ⟨v, C.host, ([], []), 0, false⟩) ⟨by have := h.host; show C.host.length ≤ _; omega, by simp, by simp, (show (-9223372036854775808 : Int) ≤ 0 by decide), (show (0 : Int) ≤ 9223372036854775807 by decide)⟩
    show (lnJoin [_]).length ≤ _
    omega
  have hm : ∀ z : Int, -1 ≤ z → z ≤ 5000 → (C.mail z).2.length ≤ 1000000 := fun z h1 h2 => by
    have := cmSend_len (x := ⟨3, [], C.from_, z, false⟩) ⟨by simp, by have := h.fl; show C.from_.1.length ≤ _; omega, by have := h.fd; show C.from_.2.length ≤ _; omega, by show _ ≤ z; omega, by show z ≤ _; omega⟩
    show (lnJoin [_]).length ≤ _
    omega
  have hn : ∀ D : Cl, (∀ r ∈ D.tos, r.box.1.length ≤ 300 ∧ r.box.2.length ≤ 300) → D.name.2.length ≤ 1000000 := fun D hd => by
    unfold Cl.name
    split
    · rename_i r hr
      have hx := hd r (List.mem_of_getElem? hr)
      have := cmSend_len (x := ⟨4, [], r.box, 0, false⟩) ⟨by simp, by show r.box.1.length ≤ _; omega, by show r.box.2.length ≤ _; omega, (show (-9223372036854775808 : Int) ≤ 0 by decide), (show (0 : Int) ≤ 9223372036854775807 by decide)⟩
      show (lnJoin [_]).length ≤ _
      omega
    · split
      · have := cmSend_len (x := ⟨5, [], ([], []), 0, false⟩) ⟨by simp, by simp, by simp, by decide, by decide⟩
        show (lnJoin [_]).length ≤ _
        omega
      · exact hq _
  unfold Cl.take
  split
  · exact hn _ fun r hr => by
      obtain ⟨r0, h0, e⟩ := (modify_like C (classC code) (C.at_ + 1)).box r hr
      rw [e]
      exact h.bx r0 h0
  split
  · split
    · show (lnStuff _).length ≤ _
      rw [lnSplit_eq]
      have h1 := (crR_back C.body.length C.body (Nat.le_refl _)).1
      have h2 := crR_len C.body.length C.body (Nat.le_refl _)
      have h3 : (lnJoin (crR C.body).1).length ≤ C.body.length := by
        have := congrArg List.length h1
        rw [List.length_append] at this
        omega
      have h4 := stuff_len (crR C.body).1
      omega
    · exact hf _ _ _
  split
  · exact hf _ _ _
  split
  · simp
  · unfold Cl.opening
    split
    · exact hg _ _
    split
    · exact hm _ (by omega) (by omega)
    split
    · exact hg _ _
    split
    · exact hq _
    split
    · exact hm _ (by decide) (by decide)
    split
    · exact hn _ h.bx
    · exact hf _ _ _
def cbnd (k : Nat) : Nat := (k + 1) * 1000000
theorem cbnd_up (k : Nat) : cbnd k ≤ cbnd (k + 1) := by unfold cbnd; omega
theorem cbnd_zero : 1000000 ≤ cbnd 0 := by unfold cbnd; omega
theorem cbnd_le (k : Nat) (h : k ≤ 100) : cbnd k ≤ 1000000000 := by unfold cbnd; omega
theorem cbnd_two (k : Nat) (h : k ≤ 100) {a b : Nat} (ha : a ≤ cbnd k) (hb : b ≤ 1000000) : a + b ≤ 1000000000 := by unfold cbnd at ha; omega
theorem cbnd_add {k a b : Nat} (ha : a ≤ cbnd k) (hb : b ≤ 1000000) : a + b ≤ cbnd (k + 1) := by unfold cbnd at *; omega
theorem talk_next (e : Int) (n : Nat) (C : Cl) (s : Sv) : talkM e (n + 1) C s = match s.next with
    | (none, t) => if t.phase = 2 then talkM e n C (t.verdict e) else ([], C, t)
    | (some x, t) => if x.kind = 2 then ([], C, t) else if x.kind = 1 then (x :: (talkM e n C t).1, (talkM e n C t).2) else talkM e n (C.take x.code).1 (t.add (C.take x.code).2) := rfl
theorem talk_more {e : Int} {n : Nat} {C : Cl} {s t : Sv} {x : Ev} (h : s.next = (some x, t)) (h2 : x.kind ≠ 2) (h1 : x.kind ≠ 1) : talkM e (n + 1) C s = talkM e n (C.take x.code).1 (t.add (C.take x.code).2) := by
  rw [talk_next, h]
  dsimp only
  rw [if_neg h2, if_neg h1]
theorem talk_stop {e : Int} {n : Nat} {C : Cl} {s t : Sv} (h : s.next = (none, t)) (h2 : t.phase ≠ 2) : talkM e (n + 1) C s = ([], C, t) := by
  rw [talk_next, h]
  dsimp only
  rw [if_neg h2]
theorem next_clear {s : Sv} (h : s.next.1 = none) : s.next.2.queue = [] := by
  unfold Sv.next at h ⊢
  split
  · rename_i hq
    exact hq
  · rename_i x q hq
    rw [hq] at h
    cases h
theorem verdict_stays (s : Sv) (e : Int) : (s.verdict e).came = s.came := by
  have := verdict_core e s.core s.came s.queue
  rw [show s.verdict e = (s.core.sv s.came s.queue).verdict e from rfl, this]
  rfl
theorem next_pair {s : Sv} {o : Option Ev} (h : s.next.1 = o) : s.next = (o, s.next.2) := by rw [← h]
section
variable {w0 w : World} {L : List Res} {p pc : Nat} {s : Sv} {K : List Rom} {v : Value} {C : Cl}
theorem SvAt.client {q : Value} {qs : List QEv} (A : SvAt w0 (queR q qs :: clR pc C v L) p s K w) : ∃ X : SvV, X.Ok s K ∧ Sp w0 [] w (clR pc C v (svL p s X K (queR q qs :: L))) := by
  obtain ⟨X, hX, S⟩ := A
  exact ⟨X, hX, (Sp.pick [_, _, _, _, _, _, _, _, _] [7, 8, 0, 1, 2, 3, 4, 5, 6] (by decide) (S))⟩
theorem SvAt.ofClient {q : Value} {qs : List QEv} {X : SvV} (hX : X.Ok s K) (S : Sp w0 [] w (clR pc C v (svL p s X K (queR q qs :: L)))) : SvAt w0 (queR q qs :: clR pc C v L) p s K w :=
  ⟨X, hX, (Sp.pick [_, _, _, _, _, _, _, _, _] [2, 3, 4, 5, 6, 7, 8, 0, 1] (by decide) (S))⟩
set_option maxRecDepth 100000 in
set_option maxHeartbeats 16000000 in
theorem talk22S (ev : Int) (hev : -9223372036854775808 ≤ ev ∧ ev ≤ 9223372036854775807) (hs : s.Sane) (hd : Cod s) (hK : C.Ok) (hc : s.came.length ≤ 1000000) (E : Env w0) (A : SvAt w0 (clR pc C v L) p s K w) :
    Calls Tryz.prog 30 #[.pointer (some ⟨pc, 0, none⟩), .pointer (some ⟨p, 0, none⟩), .int .i64 ev] w fun e w2 => ∃ vo qs K2, e = .returned vo ∧ qs.map (·.1) = (talkM ev 100 C s).1 ∧ (∀ x ∈ qs, x.in K2) ∧ SvAt w0 (queR vo qs :: clR pc (talkM ev 100 C s).2.1 v L) p (talkM ev 100 C s).2.2 K2 w2 := by
  have HEV := Lib.hid hev
  have HS := Lib.hid hs
  have HD := Lib.hid hd
  have HC := Lib.hid hc
  have HK := Lib.hid hK
  have HE := Lib.hid E
  have HA0 : Hid (SvAt w0 (queR (.slice (some ⟨w.heap.size, 0, none⟩) 0 0) [] :: clR pc C v L) p s K (w.alloc (.cells #[] 39))) := by
    obtain ⟨X, hX, S⟩ := A
    refine SvAt.over hX ?_
    exact S.gain (G := [w.heap.size]) ((Ext.refl [] w).alloc _) ⟨rfl, .inr ⟨w.heap.size, 0, 0, #[], rfl, rfl, (MapKept.heap_alloc w _).1, Nat.le_refl _, Nat.le_refl _, by unfold maxLen; omega, fun j hj => by simp at hj⟩⟩ (by simp)
  clear A hs hd hK hc E hev
  go_enter Tryz.func30, Tryz.ntmps30
  go_upto_region 3 with (fail)
  generalize w.alloc _ = w1 at *
  generalize Value.slice (some ⟨w.heap.size, 0, none⟩) 0 0 = vo at *
  go_loopw [7, 8] (fun vo vi wr => ∃ (k : Nat) (qs : List QEv) (out : List Ev) (D : Cl) (t : Sv) (K' : List Rom), vi = .int .i64 k ∧ k ≤ 100 ∧ qs.length ≤ k ∧ qs.map (·.1) = out ∧ talkM ev 100 C s = (out ++ (talkM ev (100 - k) D t).1, (talkM ev (100 - k) D t).2) ∧ D.Ok ∧ t.Sane ∧ Cod t ∧ t.came.length ≤ cbnd k ∧ (∀ x ∈ qs, x.in K') ∧ SvAt w0 (queR vo qs :: clR pc D v L) p t K' wr) (fun _ vi _ => 100 - (intOf vi).toNat)
  case atStart => exact ⟨0, [], [], C, s, K, rfl, Nat.zero_le _, Nat.le_refl _, rfl, by simp, HK.out, HS.out, HD.out, Nat.le_trans HC.out cbnd_zero, by simp, HA0.out⟩
  case round =>
    clear HA0 HS HD HC HK
    obtain ⟨k, qs, out, D, t, K', rfl, hk, hql, hmp, htk, hok, hsn, hcd, hcm, hin, A⟩ := hrel
    have HQL := Lib.hid hql
    have HMP := Lib.hid hmp
    have HTK := Lib.hid htk
    have HOK := Lib.hid hok
    have HSN := Lib.hid hsn
    have HCD := Lib.hid hcd
    have HCM := Lib.hid hcm
    have HIN := Lib.hid hin
    have HA := Lib.hid A
    clear hql hmp htk hok hsn hcd hcm hin A
    have hk' : (k : Int) ≤ 100 := by omega
    by_cases hlt : k < 100
    · have hlt' : (k : Int) < 100 := by omega
      have HSUB : Hid (100 - k = (100 - (k + 1)) + 1) := by unfold Hid; omega
      rw [HSUB.out] at HTK
      go_wp2_with fail
      refine (svNextS HSN.out (Nat.le_trans HCM.out (cbnd_le k hk)) HE.out HA.out).mono ?_
      rintro e w3 hnx
      have HSN2 := Lib.hid (sane_next HSN.out)
      have HCD2 := Lib.hid (cod_next HCD.out)
      have HCM2 : Hid (t.next.2.came.length ≤ cbnd k) := Nat.le_trans (next_came t) HCM.out
      obtain ⟨K3, hk3, A3, ⟨hn, rfl⟩ | ⟨x, xa, xn, xc, ya, yn, yc, hn, hix, rfl⟩⟩ := hnx.cases
      · have HA8 : Hid (SvAt w0 (queR u7 qs :: clR pc D v L) p t.next.2 K3 (w3.alloc (.cells zeroEv 39))) := A3.ext0 ((Ext.refl [] w3).alloc _)
        have HPH := Lib.hid (svPhaseS HA8.out)
        have HIN3 : Hid (∀ y ∈ qs, y.in K3) := fun y hy => (HIN.out y hy).more hk3
        have HPR := Lib.hid (next_pair hn)
        have HQ0 := Lib.hid (next_clear hn)
        by_cases h2 : t.next.2.phase = 2
        · rw [talk_wait HPR.out h2] at HTK
          have HSN3 := Lib.hid (sane_verdict HSN2.out HQ0.out ev)
          have HCD3 := Lib.hid (cod_verdict HCD2.out.1 ev)
          have HCM3 : Hid ((t.next.2.verdict ev).came.length ≤ cbnd (k + 1)) := by unfold Hid; rw [verdict_stays]; exact Nat.le_trans HCM2.out (cbnd_up k)
          have HVD := Lib.hid (svVerdictS ev HEV.out HSN2.out.good HSN2.out.phase HA8.out)
          rw [h2] at HPH
          generalize t.next.2.verdict ev = t3 at *
          clear hn hnx A3 h2 HA8 HA hk3 HIN HPR HQ0 HCD2
          unfold zeroEv at *
          go_wp2_with fail
          refine HPH.out.mono ?_
          rintro e w8 ⟨rfl, rfl⟩
          go_wp2_with fail
          refine HVD.out.mono ?_
          rintro e w9 ⟨rfl, K9, hk9, A9⟩
          have HA9 := Lib.hid A9
          have HIN9 : Hid (∀ y ∈ qs, y.in K9) := fun y hy => (HIN3.out y hy).more hk9
          clear A9 HVD HPH hk9
          go_wp2_with fail
          go_roundw
          case rel => exact ⟨k + 1, qs, out, D, t3, K9, by go_num, by omega, by have := HQL.out; omega, HMP.out, HTK.out, HOK.out, HSN3.out, HCD3.out, HCM3.out, HIN9.out, HA9.out⟩
          case measure => simp [intOf]; omega
        · rw [talk_stop HPR.out h2] at HTK
          have h2' : ((t.next.2.phase : Int) == 2) = false := by simp; omega
          clear hn hnx A3 h2 HA hk3 HIN HPR HQ0 HCD2 HCM2 HSN2
          unfold zeroEv at *
          generalize t.next.2 = t2 at *
          go_wp2_with fail
          refine HPH.out.mono ?_
          rintro e w8 ⟨rfl, rfl⟩
          go_wp2
          go_ret
          rw [HTK.out]
          first | exact ⟨_, qs, K3, rfl, by rw [List.append_nil]; exact HMP.out, HIN3.out, HA8.out⟩ | exact ⟨_, rfl, qs, by rw [List.append_nil]; exact HMP.out, K3, fun _ _ _ h => HIN3.out _ h, HA8.out⟩ | exact ⟨_, rfl, qs, K3, by rw [List.append_nil]; exact HMP.out, fun _ _ _ h => HIN3.out _ h, HA8.out⟩
      · have HIN3 : Hid (∀ y ∈ qs, y.in K3) := fun y hy => (HIN.out y hy).more hk3
        have HPR := Lib.hid (next_pair hn)
        have HXC := Lib.hid (HCD2.out.2 x hn)
        have HCD3 := Lib.hid HCD2.out.1
        have HIX := Lib.hid hix
        generalize t.next.2 = t2 at *
        have HA8 := Lib.hid (A3.box #[.int .i64 x.kind, .int .i64 x.code, .slice xa xn xc, .string ⟨x.text.toArray⟩, .string ⟨x.frm.1.toArray⟩, .string ⟨x.frm.2.toArray⟩, .slice ya yn yc, .string ⟨x.body.toArray⟩] 39)
        clear A3 hn hnx hk3 hix HA HIN HCD2
        unfold evAgg
        go_upto_region 7 with (fail)
        generalize w3.alloc _ = w4 at *
        generalize w3.heap.size = g8 at *
        obtain ⟨cg, fg, lg⟩ := HA8.out.boxCell
        by_cases hk2 : x.kind = 2
        · rw [talk_over HPR.out hk2] at HTK
          rw [hk2] at cg
          clear hk2
          go_wp2
          go_ret
          rw [HTK.out]
          first | exact ⟨_, qs, K3, rfl, by rw [List.append_nil]; exact HMP.out, HIN3.out, HA8.out.drop⟩ | exact ⟨_, rfl, qs, by rw [List.append_nil]; exact HMP.out, K3, fun _ _ _ h => HIN3.out _ h, HA8.out.drop⟩ | exact ⟨_, rfl, qs, K3, by rw [List.append_nil]; exact HMP.out, fun _ _ _ h => HIN3.out _ h, HA8.out.drop⟩
        · have q2 : (x.kind == 2) = false := by simpa using hk2
          by_cases hk1 : x.kind = 1
          · rw [talk_offer HPR.out hk1] at HTK
            have HTK2 : Hid (talkM ev 100 C s = ((out ++ [x]) ++ (talkM ev (100 - (k + 1)) D t2).1, (talkM ev (100 - (k + 1)) D t2).2)) := by unfold Hid; rw [HTK.out]; simp
            obtain ⟨X, hX, S5⟩ := HA8.out.drop
            have HX := Lib.hid hX
            have S6 : Sp w0 [] (w4.alloc (.cells (QEv.vals (x, .slice xa xn xc, .slice ya yn yc)).toArray 39)) (boxR w4.heap.size (QEv.vals (x, .slice xa xn xc, .slice ya yn yc)).toArray 39 :: queR u7 qs :: boxR p (svCells t2 X) 79 :: lrdR X.rb t2.came :: mbxR X.vt t2.t.rcs :: textsR X.vl t2.t.lines :: queR X.vq X.qs :: romR K3 :: clR pc D v L) := (Sp.pick [_, _, _, _, _, _, _, _] [0, 7, 1, 2, 3, 4, 5, 6] (by decide) ((S5.box #[.int .i64 x.kind, .int .i64 x.code, .slice xa xn xc, .string ⟨x.text.toArray⟩, .string ⟨x.frm.1.toArray⟩, .string ⟨x.frm.2.toArray⟩, .slice ya yn yc, .string ⟨x.body.toArray⟩] 39)))
            obtain ⟨ga, oa, ca, w10, hrun, S10⟩ := Sp.appendEv 33 (x, .slice xa xn xc, .slice ya yn yc) (by have := HQL.out; omega) rfl rfl S6
            have HRUN := Lib.hid hrun
            have HS10 := Lib.hid S10
            have HKK : Hid (x.kind = 1) := hk1
            have q1 : (x.kind == 1) = true := by simpa using hk1
            clear S5 hX hrun S10 HTK hk1 hk2
            go_wp2_with (at_builtin; refine wpList_append_run (by rfl) (by rfl) (by rfl) (by rfl) HRUN.out ?_)
            go_roundw
            case rel => exact ⟨k + 1, qs ++ [(x, Value.slice xa xn xc, Value.slice ya yn yc)], out ++ [x], D, t2, K3, by go_num, by omega, by have := HQL.out; simp; omega, by rw [List.map_append, HMP.out]; rfl, HTK2.out, HOK.out, HSN2.out, HCD3.out, Nat.le_trans HCM2.out (cbnd_up k), fun y hy => by
              rcases List.mem_append.1 hy with h | h
              · exact HIN3.out y h
              · rw [List.mem_singleton.1 h]; exact HIX.out, ⟨X, HX.out, (Sp.pick [_, _, _, _, _, _, _] [1, 2, 3, 4, 5, 6, 0] (by decide) (HS10.out))⟩⟩
            case measure => simp [intOf]; omega
          · have q1 : (x.kind == 1) = false := by simpa using hk1
            rw [talk_more HPR.out hk2 hk1] at HTK
            obtain ⟨X, hX, S5⟩ := HA8.out.drop.client
            have HX := Lib.hid hX
            have hc1 := HXC.out
            have HTKE := Lib.hid (clTakeS x.code (by omega) (by omega) HOK.out S5 HE.out)
            have HOK2 := Lib.hid (take_goes HOK.out x.code).1
            have HSHT := Lib.hid (take_short HOK.out x.code)
            clear S5 hX hk1 hk2 HA8
            obtain ⟨dt1, dt2, hdt⟩ : ∃ a b, D.take x.code = (a, b) := ⟨_, _, rfl⟩
            rw [hdt] at HTK HTKE HOK2 HSHT
            have HOK3 : Hid dt1.Ok := HOK2.out
            have HSH3 : Hid (dt2.length ≤ 1000000) := HSHT.out
            have HTK3 : Hid (talkM ev 100 C s = (out ++ (talkM ev (100 - (k + 1)) dt1 (t2.add dt2)).1, (talkM ev (100 - (k + 1)) dt1 (t2.add dt2)).2)) := HTK.out
            clear HTK HOK2 HSHT hdt hc1 HXC HPR
            go_wp2_with fail
            refine HTKE.out.mono ?_
            rintro e w5 ⟨rfl, S6⟩
            have HA6 : Hid (SvAt w0 (queR u7 qs :: clR pc dt1 v L) p t2 K3 w5) := SvAt.ofClient HX.out S6
            have HADD := Lib.hid (svAddS dt2 (cbnd_two k hk HCM2.out HSH3.out) HSN2.out.phase HA6.out)
            have HSN4 := Lib.hid (sane_add HSN2.out dt2)
            have HCD4 := Lib.hid (cod_add HCD3.out dt2)
            have HCM4 : Hid ((t2.add dt2).came.length ≤ cbnd (k + 1)) := by
              have h1 := HCM2.out
              have h2 := HSH3.out
              unfold Hid Sv.add
              split
              · exact Nat.le_trans h1 (cbnd_up k)
              · show (t2.came ++ dt2).length ≤ _
                rw [List.length_append]
                exact cbnd_add h1 h2
            clear S6 HTKE
            generalize t2.add dt2 = t3 at *
            go_wp2_with fail
            refine HADD.out.mono ?_
            rintro e w6 ⟨rfl, A7⟩
            have HA7 := Lib.hid A7
            clear A7 HADD HA6
            go_wp2_with fail
            go_roundw
            case rel => exact ⟨k + 1, qs, out, dt1, t3, K3, by go_num, by omega, by have := HQL.out; omega, HMP.out, HTK3.out, HOK3.out, HSN4.out, HCD4.out, HCM4.out, HIN3.out, HA7.out⟩
            case measure => simp [intOf]; omega
    · obtain rfl : k = 100 := by omega
      rw [Nat.sub_self] at HTK
      have HT0 : Hid (talkM ev 0 D t = ([], D, t)) := rfl
      rw [HT0.out] at HTK
      go_wp2
      go_ret
      rw [HTK.out]
      first | exact ⟨_, qs, K', rfl, by rw [List.append_nil]; exact HMP.out, HIN.out, HA.out⟩ | exact ⟨_, rfl, qs, by rw [List.append_nil]; exact HMP.out, K', fun _ _ _ h => HIN.out _ h, HA.out⟩ | exact ⟨_, rfl, qs, K', by rw [List.append_nil]; exact HMP.out, fun _ _ _ h => HIN.out _ h, HA.out⟩
end
end Go.Proofs.YtapenolbbofjkaaGreatDoor

/-! LawCs -/
namespace Go.Proofs.YtapenolbbofjkaaGreatDoor
open Go.RowKit Go.Maps

theorem taken_kind (rules : List Rl) (b : Mb) : (cfY rules).taken b = (((route rules b.2).getD ([], 0, 0)).2.1 == 2) := by
  unfold Cf.taken
  show (match route rules b.2 with | some r => r.2.1 == 2 || (r.2.1 == 1 && ([] : List Mb).contains b) | none => false) = _
  cases route rules b.2 with
  | none => rfl
  | some r => simp
theorem say_cameY {s : Sv} {c : Int} : (s.say c).came = s.came := by
  unfold Sv.say
  dsimp only
  generalize (if 500 ≤ c then s.errs + 1 else s.errs) = n
  split <;> rfl
theorem wants_snoc (c : Cf) : ∀ (l W : List Mb) (b : Mb), wants c W (l ++ [b]) = (if c.taken b = true ∧ b ∉ wants c W l then wants c W l ++ [b] else wants c W l)
  | [], W, b => rfl
  | a :: l, W, b => by
    rw [List.cons_append, wants, wants_snoc c l, wants]
section
variable {w0 w : World} {L : List Res} {p pc : Nat} {s : Sv} {K : List Rom} {v : Value} {C : Cl}
theorem que_one {F0 : List Nat} {l : List QEv} {x : QEv} (S : Sp w0 F0 w (queR v l :: L)) (h : l = [x]) : ∃ g off cap, v = .slice (some ⟨g, off, none⟩) 1 cap ∧ ∀ j u, (QEv.vals x)[j]? = some u → w.cell? ⟨g, off + j, none⟩ = some u := by
  subst h
  rcases S.rowForO with ⟨_, h2⟩ | ⟨g, off, cap, h1, hc⟩
  · cases h2
  · subst h1
    refine ⟨g, off, cap, rfl, fun j u hj => S.rowOCell j u ?_⟩
    rw [List.map_cons, List.map_nil, List.flatten_cons, List.flatten_nil, List.append_nil]
    exact hj
theorem QEv.in.boxC {q : QEv} (h : q.in K) (A : SvAt w0 L p s K w) : BxsAt w q.2.2 q.1.rcs := by
  obtain ⟨X, hX, S⟩ := A
  have S2 := (Sp.pick [_, _, _, _, _, _] [5] (by decide) (S))
  rcases h.2 with ⟨h1, h2⟩ | h
  · rw [h1, h2]
    exact ⟨none, 0, rfl, .inl rfl⟩
  · exact S2.romBxs h
set_option maxRecDepth 100000 in
set_option maxHeartbeats 16000000 in
theorem clientServer_walk (fr : Mb) (tv : Value) (tos : List Mb) (body : Bs) (rv : Value) (rules : List Rl) (ev : Int) (w : World) (E : Env w) (hf : fr.1.length ≤ maxLen ∧ fr.2.length ≤ maxLen) (B : BxsArg w tv tos) (hb : body.length ≤ maxLen) (R : RlsArg w rv rules) (hev : -9223372036854775808 ≤ ev ∧ ev ≤ 9223372036854775807) :
    Calls Tryz.prog 7 #[mbAgg fr, tv, .string ⟨body.toArray⟩, rv, .int .i64 ev] w fun e w2 => e = .returned (.bool true) ∧ Ext [] w w2 := by
  have HE := Lib.hid E
  have HEV := Lib.hid hev
  have HLG := Lib.hid (fun (W : World) (hx : Ext [] w W) => large22_any (w := W) (v := tv) [] fr tos body (Nat.zero_le _) hf.1 hf.2 hb B.2.1 B.2.2 (B.1.ext hx))
  have HR := Lib.hid R
  have HB := Lib.hid B
  obtain ⟨ra, rc, rfl⟩ := R.1.form
  obtain ⟨ta, tc, rfl⟩ := B.1.form
  obtain ⟨fl, fd⟩ := fr
  have HS0 := Lib.hid ((Sp.nil w []).box #[.string ⟨fl.toArray⟩, .string ⟨fd.toArray⟩] 37)
  have hrl := R.2.1
  have hrl' : (rules.length : Int) ≤ 9223372036854775807 := by unfold maxLen at hrl; omega
  unfold mbAgg at *
  dsimp only at *
  clear E hf B hb R hev hrl
  go_enter Tryz.func7, Tryz.ntmps7
  go_upto_region 1 with (fail)
  generalize w.alloc _ = w1 at *
  generalize w.heap.size = q5 at *
  go_wp2_with fail
  refine (awake22S HS0.out HE.out).mono ?_
  rintro e w2 ⟨rfl, S2⟩
  have HS2 := Lib.hid S2
  have c2 := S2.cell
  clear S2 HS0
  go_wp2_with fail
  refine (HLG.out w2 HS2.out.ext).mono ?_
  rintro e w3 ⟨r, rfl, hx3, hfit⟩
  have HS3 := Lib.hid (HS2.out.ext0 hx3)
  have c3 := HS3.out.cell
  clear hx3 HS2 c2 HLG
  cases r with
  | true =>
    go_wp2
    go_ret
    exact ⟨rfl, HS3.out.ext⟩
  | false =>
  obtain ⟨_, f1, f2, f3, f4, f5⟩ := hfit rfl
  dsimp only at f1 f2
  clear hfit
  by_cases hr60 : 60 < rules.length
  · have hr60' : (60 : Int) < rules.length := by omega
    go_wp2
    go_ret
    exact ⟨rfl, HS3.out.ext⟩
  have hr60' : (rules.length : Int) ≤ 60 := by omega
  have HRF : Hid (∀ r ∈ rules, r.Fit) := fun r hr => by
    have h2 := HR.out.2.2 r hr
    exact ⟨h2.dom, h2.kind.1, h2.kind.2, h2.host.1, h2.host.2⟩
  have HF4 : Hid (body.length ≤ 4096) := f4
  have HF3 : Hid (tos.length ≤ 30) := f3
  have HF5 := Lib.hid f5
  have HCN := Lib.hid (fun (W : World) (M : List Res) (S' : Sp w [] W M) => clNewS (L := M) hxB (fl, fd) (.slice ta tos.length tc) tos body (by decide) f1 f2 f4 (by omega) f5 HE.out (HB.out.1.ext S'.ext) S')
  have HSN := Lib.hid (fun (W : World) (M : List Res) (S' : Sp w [] W M) => svNewS (L := M) hostY 15000 (.slice ra rules.length rc) (.slice none 0 0) rules [] (by decide) (by decide) (by omega) HRF.out (Nat.zero_le _) (fun x hx => by cases hx) (fun W S => HR.out.1.ext S.ext) (fun W S => ⟨none, 0, rfl, .inl rfl⟩) S' HE.out)
  have HRT := Lib.hid (fun (d : Bs) (W : World) (hd : d.length ≤ 1000000) (hx : Ext [] w W) => route_any rules d hd (by omega) HRF.out (HR.out.1.ext hx) (HE.out.ext hx))
  have HNEW := Lib.hid (fun (D : Cl) (z : Int) (h : clNew hxB (fl, fd) tos body = (some D, z)) => clNew_ok h (by decide) f1 f2 f4 f5)
  have HCSP := Lib.hid (cs_spec ev rules (fl, fd) tos body)
  clear f1 f2 f3 f4 f5 hr60
  unfold mbAgg at HCN
  unfold hxB at HCN
  unfold hostY at HSN
  dsimp only at HCN
  go_wp2_with fail
  refine (HCN.out _ _ HS3.out).mono ?_
  intro e w4 hcn
  unfold OutN at hcn
  cases hcl : clNew hxB (fl, fd) tos body with
  | mk o z =>
  have hcl2 : clNew [104, 46, 120] (fl, fd) tos body = (o, z) := hcl
  rw [hcl2] at hcn
  dsimp only at hcn
  cases o with
  | none =>
    dsimp only at hcn
    obtain ⟨rfl, S4⟩ := hcn
    have HS4 := Lib.hid S4
    clear S4 HCN HS3 c3 hcl hcl2 HNEW HCSP
    go_wp2_with fail
    refine (HSN.out _ _ HS4.out).mono ?_
    intro e w5 hsn
    unfold NewTo at hsn
    cases hmay : cfMay [109, 120, 46, 121] 15000 rules [] with
    | true =>
      rw [hmay, if_pos rfl] at hsn
      obtain ⟨p, K, rfl, A5⟩ := hsn
      have HZ := Lib.hid A5.sp.ext
      clear A5 HSN HS4
      go_wp2
      go_ret
      exact ⟨rfl, HZ.out⟩
    | false =>
      rw [hmay, if_neg (by decide)] at hsn
      obtain ⟨rfl, S5⟩ := hsn
      have HZ := Lib.hid S5.ext
      clear S5 HSN HS4
      go_wp2
      go_ret
      exact ⟨rfl, HZ.out⟩
  | some C =>
  dsimp only at hcn
  obtain ⟨pc, v, rfl, S4⟩ := hcn
  obtain ⟨hok, _, _, _, hz, hC, hall, hbo⟩ := HNEW.out C z hcl
  have hto : 1 ≤ tos.length ∧ tos.length ≤ 10 := by
    have h1 := hok.n1
    have h2 := hok.n10
    rw [hC] at h1 h2
    have h3 : 1 ≤ (tos.map fun b => (⟨b, 0, false⟩ : Rc)).length := h1
    have h4 : (tos.map fun b => (⟨b, 0, false⟩ : Rc)).length ≤ 10 := h2
    rw [List.length_map] at h3 h4
    exact ⟨h3, h4⟩
  have hfrm : (fl, fd) = (([], []) : Mb) ∨ mbMay (fl, fd) = true := by
    unfold clNew at hcl
    split at hcl
    · cases hcl
    · rename_i hc
      cases hm : mbMay (fl, fd) with
      | true => exact .inr rfl
      | false =>
        left
        have hno : noBoxE (fl, fd) = true := by
          cases hn : noBoxE (fl, fd) with
          | true => rfl
          | false => exact absurd (.inr (.inr (.inl ⟨hn, hm⟩))) hc
        unfold noBoxE at hno
        simp only [Bool.and_eq_true, beq_iff_eq] at hno
        rw [hno.1, hno.2]
  have HSPEC := Lib.hid (fun h => HCSP.out hfrm (fun x hx => List.all_eq_true.1 hall x hx) hto.1 hto.2 hbo HF4.out h)
  have HTO := Lib.hid hto
  have HC0 : Hid (C = ⟨hxB, (fl, fd), tos.map rcFresh, body, 0, 0⟩) := hC
  have HOKC := Lib.hid hok
  have HS4 := Lib.hid S4
  clear S4 HCN HS3 c3 hcl hcl2 HNEW HCSP hok hz hC hall hbo hto hfrm
  go_wp2_with fail
  refine (HSN.out _ _ HS4.out).mono ?_
  intro e w5 hsn
  unfold NewTo at hsn
  cases hmay : cfMay [109, 120, 46, 121] 15000 rules [] with
  | false =>
    rw [hmay, if_neg (by decide)] at hsn
    obtain ⟨rfl, S5⟩ := hsn
    have HZ := Lib.hid S5.ext
    clear S5 HSN HS4
    go_wp2
    go_ret
    exact ⟨rfl, HZ.out⟩
  | true =>
  rw [hmay, if_pos rfl] at hsn
  obtain ⟨p, K, rfl, A5⟩ := hsn
  have HFITY : Hid ((cfY rules).Fit) := ⟨by show hostY.length ≤ 1000; decide, by show (15000 : Nat) ≤ 15000; omega, by show rules.length ≤ 1000; omega, HRF.out, by show ([] : List Mb).length ≤ 1000; decide⟩
  have A6 : SvAt w (clR pc C v [boxR q5 #[.string ⟨fl.toArray⟩, .string ⟨fd.toArray⟩] 37]) p (svNew (cfY rules)) K w5 := A5
  obtain ⟨X, hX, S6⟩ := A6
  have HX := Lib.hid hX
  obtain ⟨L0, hL0⟩ : ∃ L0 : List Res, L0 = svL p (svNew (cfY rules)) X K (clR pc C v [boxR q5 #[.string ⟨fl.toArray⟩, .string ⟨fd.toArray⟩] 37]) := ⟨_, rfl⟩
  have HL0 := Lib.hid hL0
  rw [← hL0] at S6
  have HS6 : Hid (Sp w [] ((w5.alloc (.cells #[] 37)).alloc (.cells #[] 3)) (mbxR (.slice (some ⟨w5.heap.size, 0, none⟩) 0 0) [] :: ints21 (.slice (some ⟨w5.heap.size + 1, 0, none⟩) 0 0) [] :: L0)) := by
    have hz : (w5.alloc (.cells #[] 37)).heap.size = w5.heap.size + 1 := Array.size_push _
    have S7 := (S6.rowNone 37 2).rowNone 3 1
    rw [hz] at S7
    exact S7.pull1
  clear A5 S6 hX hL0 HSN HS4 hmay
  have HLM : Hid (lastM ev = if ev = 0 then 1 else if ev = 1 ∨ ev = 2 ∨ ev = 5 then 2 else 0) := rfl
  go_upto_region 11 with (fail)
  generalize Value.slice (some ⟨w5.heap.size, 0, none⟩) 0 0 = vw at *
  generalize Value.slice (some ⟨w5.heap.size + 1, 0, none⟩) 0 0 = vs at *
  generalize (w5.alloc (.cells #[] 37)).alloc (.cells #[] 3) = w6 at *
  have hor : (ev = 0 ∧ lastM ev = 1) ∨ (ev = 2 ∧ lastM ev = 2) ∨ (ev = 5 ∧ lastM ev = 2) ∨ (ev = 1 ∧ lastM ev = 2) ∨ ((ev ≠ 0 ∧ ev ≠ 1 ∧ ev ≠ 2 ∧ ev ≠ 5) ∧ lastM ev = 0) := by
    rw [HLM.out]
    by_cases e0 : ev = 0
    · exact .inl ⟨e0, if_pos e0⟩
    by_cases e2 : ev = 2
    · exact .inr (.inl ⟨e2, by rw [if_neg e0, if_pos (.inr (.inl e2))]⟩)
    by_cases e5 : ev = 5
    · exact .inr (.inr (.inl ⟨e5, by rw [if_neg e0, if_pos (.inr (.inr e5))]⟩))
    by_cases e1 : ev = 1
    · exact .inr (.inr (.inr (.inl ⟨e1, by rw [if_neg e0, if_pos (.inl e1)]⟩)))
    · exact .inr (.inr (.inr (.inr ⟨⟨e0, e1, e2, e5⟩, by rw [if_neg e0, if_neg (by rintro (h | h | h) <;> contradiction)]⟩)))
  clear HLM
  have HW0 : Hid (wants (cfY rules) [] (tos.take 0) = [] ∧ (tos.take 0).map (endM (cfY rules) ev) = []) := ⟨rfl, rfl⟩
  go_upto_block 0 with (fail)
  go_cut [17] from 61 to 66 (fun v17 wx => v17 = .int .i64 (lastM ev) ∧ wx = w6)
  case first =>
    generalize lastM ev = lm at *
    rcases hor with ⟨rfl, rfl⟩ | ⟨rfl, rfl⟩ | ⟨rfl, rfl⟩ | ⟨rfl, rfl⟩ | ⟨⟨n0, n1, n2, n5⟩, rfl⟩
    all_goals
      try (have m0 : (ev == 0) = false := by simpa using n0)
      try (have m1 : (ev == 1) = false := by simpa using n1)
      try (have m2 : (ev == 2) = false := by simpa using n2)
      try (have m5 : (ev == 5) = false := by simpa using n5)
      try clear n0 n1 n2 n5
      go_wp2_with fail
      go_meet
      case rel => exact ⟨rfl, rfl⟩
  case rest =>
  obtain ⟨rfl, rfl⟩ := hcut
  clear hor
  have HTLI : Hid ((tos.length : Int) ≤ 30) := by have := HF3.out; unfold Hid; omega
  have htli := HTLI.out
  go_wp2_with fail
  go_loopw [15, 16, 69] (fun vw vs vi wr => ∃ k : Nat, vi = .int .i64 k ∧ k ≤ tos.length ∧ Sp w [] wr (mbxR vw (wants (cfY rules) [] (tos.take k)) :: ints21 vs ((tos.take k).map (endM (cfY rules) ev)) :: L0)) (fun _ _ vi _ => tos.length - (intOf vi).toNat)
  case atStart => exact ⟨0, rfl, Nat.zero_le _, by rw [HW0.out.1, HW0.out.2]; exact HS6.out⟩
  case round =>
    clear HS6 HW0
    obtain ⟨k, rfl, hk, S⟩ := hrel
    have HS := Lib.hid S
    obtain ⟨wa, wc2, hwf⟩ := S.mbForm
    have hlw : (wants (cfY rules) [] (tos.take k)).length ≤ k := by
      have := wants_len (cfY rules) (tos.take k) []
      rw [List.length_take] at this
      simp only [List.length_nil] at this
      omega
    have HLW := Lib.hid hlw
    have HLS : Hid (((tos.take k).map (endM (cfY rules) ev)).length = k) := by unfold Hid; rw [List.length_map, List.length_take]; omega
    subst hwf
    clear S
    have hk' : (k : Int) ≤ tos.length := by omega
    by_cases hlt : k < tos.length
    · have hlt' : (k : Int) < tos.length := by omega
      have HTK : Hid (tos.take (k + 1) = tos.take k ++ [tos[k]]) := List.take_succ_eq_append_getElem hlt
      have HWS := Lib.hid (wants_snoc (cfY rules) (tos.take k) [] tos[k])
      have HEM : Hid ((tos.take (k + 1)).map (endM (cfY rules) ev) = (tos.take k).map (endM (cfY rules) ev) ++ [endM (cfY rules) ev tos[k]]) := by unfold Hid; rw [HTK.out, List.map_append]; rfl
      rw [← HTK.out] at HWS
      obtain ⟨tb, toff, rfl, ck, dk⟩ := (HB.out.1.ext HS.out.ext).at hlt
      have HBD : Hid (tos[k].2.length ≤ 1000000) := by have := (HF5.out _ (List.getElem_mem hlt)).2; unfold Hid; omega
      generalize tos[k] = b at *
      obtain ⟨bl, bd⟩ := b
      dsimp only at *
      have HTKD := Lib.hid (taken_kind rules (bl, bd))
      dsimp only at HTKD
      have HEMD : Hid (endM (cfY rules) ev (bl, bd) = if (cfY rules).taken (bl, bd) = true then lastM ev else 2) := rfl
      have HS1 := Lib.hid (HS.out.box #[.string ⟨bl.toArray⟩, .string ⟨bd.toArray⟩] 37)
      clear hlw HTK
      generalize wants (cfY rules) [] (tos.take k) = W at *
      obtain ⟨W2, hW2⟩ : ∃ W2, W2 = wants (cfY rules) [] (tos.take (k + 1)) := ⟨_, rfl⟩
      rw [← hW2] at HWS
      have HE2 := Lib.hid hW2
      clear hW2
      generalize (tos.take k).map (endM (cfY rules) ev) = ST at *
      obtain ⟨ST2, hST2⟩ : ∃ ST2, ST2 = (tos.take (k + 1)).map (endM (cfY rules) ev) := ⟨_, rfl⟩
      rw [← hST2] at HEM
      have HE3 := Lib.hid hST2
      clear hST2
      go_upto_region 22 with (fail)
      generalize wr.alloc _ = w7 at *
      generalize wr.heap.size = q7 at *
      have c7 := HS1.out.cell
      go_wp2_with fail
      refine (HRT.out bd w7 HBD.out HS1.out.ext).mono ?_
      rintro e w8 ⟨rfl, hx8⟩
      generalize (route rules bd).getD ([], 0, 0) = r at *
      generalize (route rules bd).isSome = ri at *
      obtain ⟨r1, r2, r3⟩ := r
      have HS2 := Lib.hid ((HS1.out.ext0 hx8).box #[.string ⟨r1.toArray⟩, .int .i64 r2, .int .i64 r3] 65)
      clear hx8 c7 HS1 HS
      dsimp only [rlAgg] at *
      go_upto_region 23 with (fail)
      generalize w8.alloc _ = w9 at *
      generalize w8.heap.size = q9 at *
      have c9 := HS2.out.cell
      have c7 := (HS2.out.pull1).cell
      have HLSI : Hid (ST.length ≤ 30) := by have := HLS.out; have := HF3.out; unfold Hid; omega
      have HLWI : Hid (W.length ≤ 30) := by have := HLW.out; have := HF3.out; unfold Hid; omega
      have hwi : (W.length : Int) ≤ 30 := by have := HLWI.out; omega
      by_cases ht : r2 = 2
      · subst ht
        have HT1 : Hid ((cfY rules).taken (bl, bd) = true) := HTKD.out
        obtain ⟨gs, cs, w10, hrun, S10⟩ := Sp.appendInt21 52 (lastM ev) (by have := HLSI.out; omega) ((Sp.pick [_, _, _, _, _] [0, 4, 2, 3] (by decide) ((HS2.out.box #[.int .i64 (lastM ev)] 3))))
        have HRUN := Lib.hid hrun
        have HST2 : Hid (ST2 = ST ++ [lastM ev]) := by unfold Hid; rw [HEM.out, HEMD.out, if_pos HT1.out]
        rw [← HST2.out] at S10
        have HS10 := Lib.hid ((Sp.pick [_, _, _] [1, 2, 0] (by decide) (S10)))
        clear hrun S10 HS2 HTKD HEMD HEM HRT
        go_wp2_with (at_builtin; refine wpList_append_run (by rfl) (by rfl) (by rfl) (by rfl) HRUN.out ?_)
        clear c9 c7
        go_loopw [22, 92] (fun h i wr => ∃ (j : Nat) (hb : Bool), h = .bool hb ∧ i = .int .i64 j ∧ j ≤ W.length ∧ (hb = true ↔ (bl, bd) ∈ W.take j) ∧ Sp w [] wr (boxR q7 #[.string ⟨bl.toArray⟩, .string ⟨bd.toArray⟩] 37 :: mbxR (.slice wa W.length wc2) W :: ints21 (.slice (some ⟨gs, 0, none⟩) (ST.length + 1) cs) ST2 :: L0)) (fun _ i _ => W.length - (intOf i).toNat)
        case atStart => exact ⟨0, false, rfl, rfl, Nat.zero_le _, by simp, HS10.out⟩
        case round =>
          clear HS10 HRUN
          obtain ⟨j, hb, rfl, rfl, hj, hiff, S⟩ := hrel
          have HS2 := Lib.hid S
          have HIFF := Lib.hid hiff
          have HBX := Lib.hid S.pull1.bxs
          have c1 := S.cell
          clear S hiff
          have hj' : (j : Int) ≤ W.length := by omega
          by_cases hlt2 : j < W.length
          · have hlt2' : (j : Int) < W.length := by omega
            obtain ⟨yb, yo, rfl, y0, y1⟩ := HBX.out.at hlt2
            have HTK2 : Hid (W.take (j + 1) = W.take j ++ [W[j]]) := List.take_succ_eq_append_getElem hlt2
            generalize W[j] = m at *
            obtain ⟨ml, md⟩ := m
            dsimp only at *
            have HS3 := Lib.hid (HS2.out.box #[.string ⟨ml.toArray⟩, .string ⟨md.toArray⟩] 37)
            clear c1 HBX
            go_upto_region 30 with (fail)
            generalize wr.alloc _ = w11 at *
            generalize wr.heap.size = q11 at *
            have c4 := HS3.out.cell
            have c1 := (HS3.out.pull1).cell
            cases hb with
            | true =>
              have HI2 : Hid ((true : Bool) = true ↔ (bl, bd) ∈ W.take (j + 1)) := ⟨fun _ => by rw [HTK2.out]; exact List.mem_append_left _ (HIFF.out.1 rfl), fun _ => rfl⟩
              go_wp2_with fail
              go_roundw
              case rel => exact ⟨j + 1, true, rfl, by go_num, by omega, HI2.out, HS3.out.drop⟩
              case measure => simp [intOf]; omega
            | false =>
              have HN : Hid ((bl, bd) ∉ W.take j) := fun h => by have := HIFF.out.2 h; cases this
              by_cases he : ml = bl ∧ md = bd
              · obtain ⟨rfl, rfl⟩ := he
                have HI2 : Hid ((true : Bool) = true ↔ (ml, md) ∈ W.take (j + 1)) := ⟨fun _ => by rw [HTK2.out]; simp, fun _ => rfl⟩
                go_wp2_with fail
                go_roundw
                case rel => exact ⟨j + 1, true, by simp, by go_num, by omega, HI2.out, HS3.out.drop⟩
                case measure => simp [intOf]; omega
              · have HI2 : Hid ((false : Bool) = true ↔ (bl, bd) ∈ W.take (j + 1)) := ⟨fun h => (by cases h), fun h => by
                  rw [HTK2.out] at h
                  rcases List.mem_append.1 h with h | h
                  · exact absurd h HN.out
                  · simp only [List.mem_singleton, Prod.mk.injEq] at h
                    exact absurd ⟨h.1.symm, h.2.symm⟩ he⟩
                by_cases h1 : ml = bl
                · subst h1
                  have h2' : (md == bd) = false := by simpa using fun h => he ⟨rfl, h⟩
                  clear he
                  go_wp2_with fail
                  go_roundw
                  case rel => exact ⟨j + 1, false, by simp [h2'], by go_num, by omega, HI2.out, HS3.out.drop⟩
                  case measure => simp [intOf]; omega
                · have h1' : (ml == bl) = false := by simpa using h1
                  clear he
                  go_wp2_with fail
                  go_roundw
                  case rel => exact ⟨j + 1, false, by simp [h1'], by go_num, by omega, HI2.out, HS3.out.drop⟩
                  case measure => simp [intOf]; omega
          · obtain rfl : j = W.length := by omega
            rw [List.take_length] at HIFF
            cases hb with
            | true =>
              have HW2 : Hid (W2 = W) := by unfold Hid; rw [HWS.out, if_neg (fun h => h.2 (HIFF.out.1 rfl))]
              have HZ := Lib.hid HS2.out.drop
              go_wp2_with fail
              go_roundw
              case rel => exact ⟨k + 1, by go_num, by omega, by rw [← HE2.out, ← HE3.out, HW2.out]; exact HZ.out⟩
              case measure => simp [intOf]; omega
            | false =>
              have HW2 : Hid (W2 = W ++ [(bl, bd)]) := by unfold Hid; rw [HWS.out, if_pos ⟨HT1.out, fun h => by have := HIFF.out.2 h; cases this⟩]
              obtain ⟨gw, cw, w12, hrun, S12⟩ := Sp.appendMb 29 (bl, bd) (by have := HLWI.out; omega) ((Sp.pick [_, _, _, _] [0, 2, 3] (by decide) ((HS2.out.box #[.string ⟨bl.toArray⟩, .string ⟨bd.toArray⟩] 37))))
              have HRUN := Lib.hid hrun
              rw [← HW2.out] at S12
              have HZ := Lib.hid S12.drop
              clear hrun S12
              go_wp2_with (at_builtin; refine wpList_append_run (by rfl) (by rfl) (by rfl) (by rfl) HRUN.out ?_)
              go_roundw
              case rel => exact ⟨k + 1, by go_num, by omega, by rw [← HE2.out, ← HE3.out]; exact HZ.out⟩
              case measure => simp [intOf]; omega
      · have ht' : (r2 == 2) = false := by simpa using ht
        have HT1 : Hid (¬ (cfY rules).taken (bl, bd) = true) := by unfold Hid; rw [HTKD.out]; simpa using ht
        have HW2 : Hid (W2 = W) := by unfold Hid; rw [HWS.out, if_neg (fun h => HT1.out h.1)]
        have HST2 : Hid (ST2 = ST ++ [2]) := by unfold Hid; rw [HEM.out, HEMD.out, if_neg HT1.out]
        obtain ⟨gs, cs, w10, hrun, S10⟩ := Sp.appendInt21 52 2 (by have := HLSI.out; omega) ((Sp.pick [_, _, _, _, _] [0, 4, 3] (by decide) ((HS2.out.box #[.int .i64 2] 3))))
        have HRUN := Lib.hid hrun
        rw [← HST2.out] at S10
        have HZ := Lib.hid S10.pull1
        clear hrun S10 HS2 HTKD HEMD HEM HRT ht
        go_wp2_with (at_builtin; refine wpList_append_run (by rfl) (by rfl) (by rfl) (by rfl) HRUN.out ?_)
        go_roundw
        case rel => exact ⟨k + 1, by go_num, by omega, by rw [← HE2.out, ← HE3.out, HW2.out]; exact HZ.out⟩
        case measure => simp [intOf]; omega
    · obtain rfl : k = tos.length := by omega
      rw [List.take_length] at HS HLW HLS ⊢
      have HWL : Hid ((wants (cfY rules) [] tos).length ≤ tos.length) := HLW.out
      have HA7 : Hid (SvAt w (clR pc C v (boxR q5 #[.string ⟨fl.toArray⟩, .string ⟨fd.toArray⟩] 37 :: mbxR (.slice wa (wants (cfY rules) [] tos).length wc2) (wants (cfY rules) [] tos) :: ints21 u16 (tos.map (endM (cfY rules) ev)) :: [])) p (svNew (cfY rules)) K wr) := by
        have S := HS.out
        rw [HL0.out] at S
        exact ⟨X, HX.out, (Sp.pick [_, _, _, _, _, _, _, _, _, _, _] [2, 3, 4, 5, 6, 7, 8, 9, 10, 0, 1] (by decide) (S))⟩
      have HTALK := Lib.hid (talk22S ev HEV.out (sane_new HFITY.out) (cod_new (cfY rules)) HOKC.out (by rw [show (svNew (cfY rules)).came = [] by unfold svNew; rw [say_cameY]]; exact Nat.zero_le _) HE.out HA7.out)
      rw [HC0.out] at HTALK
      generalize wants (cfY rules) [] tos = W at *
      have hwl : (W.length : Int) ≤ tos.length := by have := HWL.out; omega
      clear HS HL0 HX HLW HLS HWL HRT
      go_wp2_with fail
      refine HTALK.out.mono ?_
      rintro e w7 ⟨vo, qs, K2, rfl, hqm, hin, A⟩
      obtain ⟨bdn, hbd⟩ : ∃ n : Nat, (tos.length : Int) - W.length = n := ⟨tos.length - W.length, by have := hwl; omega⟩
      have hbdi : (bdn : Int) ≤ 30 := by omega
      by_cases hb9 : 9 ≤ bdn
      · have hb9' : (9 : Int) ≤ bdn := by omega
        have HZ := Lib.hid A.sp.ext
        clear A HTALK HA7
        go_wp2
        go_ret
        exact ⟨rfl, HZ.out⟩
      have hb9' : (bdn : Int) < 9 := by omega
      obtain ⟨C2, t2, htk, hst, hph⟩ := HSPEC.out (by omega)
      rw [htk] at hqm A
      dsimp only at hqm A
      have HA8 := Lib.hid A
      have HIN := Lib.hid hin
      have HST := Lib.hid hst
      have HPH := Lib.hid hph
      have hc2 : C2.tos.length ≤ 1000 := by
        have h := congrArg List.length hst
        rw [List.length_map, List.length_map] at h
        have := HTO.out
        omega
      obtain ⟨X2, hX2, SC⟩ := A.client
      have HX2 := Lib.hid hX2
      have HSTS := Lib.hid (clStatesS hc2 SC)
      have HOUT : Hid (∀ W9 v9, Sp w [] W9 (intsR v9 (C2.tos.map Rc.state) :: clR pc C2 v (svL p t2 X2 K2 (queR vo qs :: [boxR q5 #[.string ⟨fl.toArray⟩, .string ⟨fd.toArray⟩] 37, mbxR (.slice wa W.length wc2) W, ints21 u16 (tos.map (endM (cfY rules) ev))]))) →
          Calls Tryz.prog 31 #[v9, u16] W9 (fun e w2 => e = .returned (.bool true) ∧ ∃ q, w2 = W9.drewN q) ∧ Ext [] w W9 ∧ ∀ q, SvAt w (clR pc C2 v (queR vo qs :: [boxR q5 #[.string ⟨fl.toArray⟩, .string ⟨fd.toArray⟩] 37, mbxR (.slice wa W.length wc2) W, ints21 u16 (tos.map (endM (cfY rules) ev))])) p t2 K2 (W9.drewN q)) := fun W9 v9 S => by
        have T1 : IxAt W9 v9 (C2.tos.map Rc.state) := S.ixAt
        have T2 : IxAt W9 u16 (tos.map (endM (cfY rules) ev)) := ((Sp.pick [_, _, _, _, _, _, _, _, _, _, _, _, _] [12] (by decide) (S))).ints21
        refine ⟨?_, S.ext, fun q => ⟨X2, HX2.out, (Sp.pick [_, _, _, _, _, _, _, _, _, _, _, _, _] [3, 4, 5, 6, 7, 8, 1, 2, 9, 10, 11, 12] (by decide) (S.drewN q))⟩⟩
        refine (same22_any _ _ T1 T2 (by rw [List.length_map]; omega)).mono ?_
        rintro e w2 ⟨rfl, hq⟩
        rw [decide_eq_true HST.out]
        exact ⟨rfl, hq⟩
      obtain ⟨BL, hBL⟩ : ∃ BL : List Res, BL = clR pc C2 v (svL p t2 X2 K2 (queR vo qs :: [boxR q5 #[.string ⟨fl.toArray⟩, .string ⟨fd.toArray⟩] 37, mbxR (.slice wa W.length wc2) W, ints21 u16 (tos.map (endM (cfY rules) ev))])) := ⟨_, rfl⟩
      have HBL := Lib.hid hBL
      have HSB : Hid (Sp w [] w7 BL) := by unfold Hid; rw [hBL]; exact SC
      have HSTB : Hid (∀ W', Sp w [] W' BL → Calls Tryz.prog 32 #[.pointer (some ⟨pc, 0, none⟩)] W' fun e w2 => ∃ v2, e = .returned v2 ∧ Sp w [] w2 (intsR v2 (C2.tos.map Rc.state) :: clR pc C2 v (svL p t2 X2 K2 (queR vo qs :: [boxR q5 #[.string ⟨fl.toArray⟩, .string ⟨fd.toArray⟩] 37, mbxR (.slice wa W.length wc2) W, ints21 u16 (tos.map (endM (cfY rules) ev))])))) := fun W' S' => by
        rw [hBL] at S'
        exact clStatesS hc2 S'
      clear A hin hst hph htk hX2 SC HTALK HA7 HSPEC hb9 hBL
      by_cases hw0 : W = []
      · rw [if_pos hw0] at hqm
        have hw1 : ((W.length : Int) == 0) = true := by simp [hw0]
        clear hw0
        have hq0 : qs = [] := List.map_eq_nil_iff.1 hqm
        subst hq0
        obtain ⟨va, vcap, rfl⟩ : ∃ a c, vo = .slice a 0 c := by
          obtain ⟨X, hX, S⟩ := HA8.out
          rcases ((Sp.pick [_, _, _, _, _, _, _] [6] (by decide) (S))).rowForO with ⟨h1, _⟩ | ⟨g, off, cap, h1, _⟩
          · exact ⟨_, _, h1⟩
          · exact ⟨_, _, h1⟩
        clear hqm
        go_wp2_with fail
        refine HSTS.out.mono ?_
        rintro e w9 ⟨v9, rfl, S9⟩
        obtain ⟨h1, h2, _⟩ := HOUT.out _ _ S9
        have HSM := Lib.hid h1
        have HXT := Lib.hid h2
        clear S9 h1 h2 HSTS
        go_wp2_with fail
        refine HSM.out.mono ?_
        rintro e w10 ⟨rfl, q10, rfl⟩
        go_wp2
        go_ret
        exact ⟨rfl, HXT.out.drewN q10⟩
      · rw [if_neg hw0] at hqm
        obtain ⟨x, Q, rfl, hx, hQ⟩ := List.map_eq_cons_iff.1 hqm
        have hQ2 := List.map_eq_nil_iff.1 hQ
        subst hQ2
        obtain ⟨xe, xl, xt⟩ := x
        dsimp only at hx
        subst hx
        obtain ⟨g, off, gcap, hvo, hcel⟩ : ∃ g off cap, vo = .slice (some ⟨g, off, none⟩) 1 cap ∧ ∀ j u, (QEv.vals ((⟨1, 0, [], hxB, (fl, fd), W, body⟩ : Ev), xl, xt))[j]? = some u → w7.cell? ⟨g, off + j, none⟩ = some u := by
          obtain ⟨X, hX, S⟩ := HA8.out
          exact que_one ((Sp.pick [_, _, _, _, _, _, _] [6] (by decide) (S))) rfl
        subst hvo
        have hbx := (HIN.out ((⟨1, 0, [], hxB, (fl, fd), W, body⟩ : Ev), xl, xt) (by simp)).boxC HA8.out
        dsimp only at hbx
        have hbw : BxsAt w7 (.slice wa W.length wc2) W := by
          obtain ⟨X, hX, S⟩ := HA8.out
          exact ((Sp.pick [_, _, _, _, _, _, _, _, _, _, _] [10] (by decide) (S))).bxs
        obtain ⟨xta, xtc, rfl⟩ := hbx.form
        have hw1 : ((W.length : Int) == 0) = false := by simpa using hw0
        have hwl2 : (W.length : Int) ≤ 30 := by omega
        clear hcel hqm hQ hbx hbw hw0 HSTS
        have HFA : Hid (∀ W', Sp w [] W' BL → W'.cell? ⟨g, off + 3, none⟩ = some (.string ⟨#[104, 46, 120]⟩) ∧ W'.cell? ⟨g, off + 4, none⟩ = some (.string ⟨fl.toArray⟩) ∧ W'.cell? ⟨g, off + 5, none⟩ = some (.string ⟨fd.toArray⟩) ∧ W'.cell? ⟨g, off + 6, none⟩ = some (.slice xta W.length xtc) ∧ W'.cell? ⟨g, off + 7, none⟩ = some (.string ⟨body.toArray⟩) ∧
            W'.cell? ⟨q5, 0, none⟩ = some (.string ⟨fl.toArray⟩) ∧ W'.cell? ⟨q5, 1, none⟩ = some (.string ⟨fd.toArray⟩) ∧ BxsAt W' (.slice xta W.length xtc) W ∧ BxsAt W' (.slice wa W.length wc2) W) := fun W' S' => by
          rw [HBL.out] at S'
          have SQ := (Sp.pick [_, _, _, _, _, _, _, _, _] [8] (by decide) (S'))
          have SB := (Sp.pick [_, _, _, _, _, _, _, _, _, _] [9] (by decide) (S'))
          have SW := (Sp.pick [_, _, _, _, _, _, _, _, _, _, _] [10] (by decide) (S'))
          have A' : SvAt w _ p t2 K2 W' := ⟨X2, HX2.out, (Sp.pick [_, _, _, _, _, _, _, _] [2, 3, 4, 5, 6, 7] (by decide) (S'))⟩
          refine ⟨SQ.rowOCell 3 _ rfl, SQ.rowOCell 4 _ rfl, SQ.rowOCell 5 _ rfl, SQ.rowOCell 6 _ rfl, SQ.rowOCell 7 _ rfl, SB.cell 0, SB.cell 1, ?_, SW.bxs⟩
          exact (HIN.out ((⟨1, 0, [], hxB, (fl, fd), W, body⟩ : Ev), xl, .slice xta W.length xtc) (by simp)).boxC A'
        obtain ⟨k3, k4, k5, k6, k7, b0, b1, _, _⟩ := HFA.out _ HSB.out
        go_upto_region 41 with (fail)
        refine wp_region_text (S := fun wx => Sp w [] wx (BL) ∧ (wx.cell? ⟨g, off + 3, none⟩ = some (.string ⟨#[104, 46, 120]⟩)) ∧ (wx.cell? ⟨g, off + 4, none⟩ = some (.string ⟨fl.toArray⟩)) ∧ (wx.cell? ⟨g, off + 5, none⟩ = some (.string ⟨fd.toArray⟩)) ∧ (wx.cell? ⟨g, off + 6, none⟩ = some (.slice xta W.length xtc)) ∧ (wx.cell? ⟨g, off + 7, none⟩ = some (.string ⟨body.toArray⟩)) ∧ (wx.cell? ⟨q5, 0, none⟩ = some (.string ⟨fl.toArray⟩)) ∧ (wx.cell? ⟨q5, 1, none⟩ = some (.string ⟨fd.toArray⟩))) (by kernel_rfl) (by kernel_rfl) ⟨(HSB.out).drew, k3, k4, k5, k6, k7, b0, b1⟩ ?_
        repeat
          refine Exists.intro ?_ (And.intro (fun wS hS K hK => ?_) (And.intro ?_ ?_))
          rotate_left 1
          · obtain ⟨hS1, hS2, hS3, hS4, hS5, hS6, hS7, hS8⟩ := hS
            first
              | (refine if_unwanted rfl ?_; simp only [Act.put, List.setIfInBounds_toArray, List.set_cons_zero, List.set_cons_succ]; exact hK.out _ ⟨hS1, hS2, hS3, hS4, hS5, hS6, hS7, hS8⟩)
              | (refine if_wanted rfl ?_; go_simp; exact hK.out _ ⟨hS1, hS2, hS3, hS4, hS5, hS6, hS7, hS8⟩)
          · rfl
        intro wE hE
        have HSE := Lib.hid hE.1
        clear hE
        clear k3 k4 k5 k6 k7 b0 b1 HSB
        go_wp2_with fail
        go_loopw [171] (fun vi wr => ∃ j : Nat, vi = .int .i64 j ∧ j ≤ W.length ∧ Sp w [] wr BL) (fun vi _ => W.length - (intOf vi).toNat)
        case atStart => exact ⟨0, rfl, Nat.zero_le _, HSE.out⟩
        case round =>
          clear HSE
          obtain ⟨j, rfl, hj, S⟩ := hrel
          have HSJ := Lib.hid S
          clear S
          have hj' : (j : Int) ≤ W.length := by omega
          by_cases hlt : j < W.length
          · have hlt' : (j : Int) < W.length := by omega
            obtain ⟨_, _, _, k6, _, _, _, hbx, hbw⟩ := HFA.out _ HSJ.out
            obtain ⟨xb, xo, hxa, x0, x1⟩ := hbx.at hlt
            obtain ⟨yb, yo, hya, y0, y1⟩ := hbw.at hlt
            subst hxa hya
            generalize W[j] = m at *
            obtain ⟨ml, md⟩ := m
            dsimp only at *
            have HD := Lib.hid HSJ.out.drew
            clear hbx hbw
            go_upto_region 46 with (fail)
            go_region
            all_goals
              go_wp2_with fail
              go_roundw
              case rel => exact ⟨j + 1, by go_num, by omega, by first | exact HD.out | exact HSJ.out⟩
              case measure => simp [intOf]; omega
          · go_wp2_with fail
            refine (HSTB.out _ HSJ.out).mono ?_
            rintro e w9 ⟨v9, rfl, S9⟩
            obtain ⟨h1, h2, h3⟩ := HOUT.out _ _ S9
            have HSM := Lib.hid h1
            have HSV := Lib.hid h3
            clear S9 h1 h2 h3 HSTB
            go_wp2_with fail
            refine HSM.out.mono ?_
            rintro e w10 ⟨rfl, q10, rfl⟩
            have HP3 := Lib.hid (svPhaseS (HSV.out q10))
            rw [HPH.out] at HP3
            go_wp2_with fail
            refine HP3.out.mono ?_
            rintro e w11 ⟨rfl, rfl⟩
            go_wp2
            go_ret
            exact ⟨rfl, (HSV.out q10).sp.ext⟩
end
end Go.Proofs.YtapenolbbofjkaaGreatDoor
