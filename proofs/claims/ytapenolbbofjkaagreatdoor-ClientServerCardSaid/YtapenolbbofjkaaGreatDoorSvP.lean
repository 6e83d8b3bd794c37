/- server, plainly: rules, a session, what happens line by line. No program. server, plainly: what is done hangs on no queue and on no bytes that came; how bytes come doesn't matter. No program. server, plainly: draining a session. No program. server, plainly: how bytes come doesn't matter. No program. -/
import Derived.Test.YtapenolbbofjkaaGreatDoorCmP
import Derived.Test.YtapenolbbofjkaaGreatDoorLnQ
/-! SvP -/
set_option linter.unusedSimpArgs false
set_option linter.unusedVariables false
set_option linter.unnecessarySimpa false
namespace Go.Proofs.YtapenolbbofjkaaGreatDoor
open Go.Lib (decDigits)

/-! ### rules -/
/-- A rule: a domain, a kind, a host. -/
abbrev Rl := Bs × Int × Int
def rlMay (r : Rl) : Bool := (r.1 == [42] || ((domV r.1).2 == 0 && (domV r.1).1 == r.1)) && (decide (1 ≤ r.2.1) && (decide (r.2.1 ≤ 3) && (decide (0 ≤ r.2.2) && decide (r.2.2 ≤ 7))))
def rlsMay (l : List Rl) : Bool := decide (l.length ≤ 40) && (l.all rlMay && decide ((l.map (·.1)).Nodup))
def rlFind (l : List Rl) (d : Bs) : Option Rl := l.find? fun r => r.1 == d
/-- What stands behind the first dot. -/
def dotR : Bs → Option Bs
  | [] => none
  | c :: r => if c = 46 then some r else dotR r
def rlUp (l : List Rl) : Nat → Bs → Option Rl
  | 0, _ => none
  | n + 1, d => match rlFind l d with
    | some r => some r
    | none => match dotR d with
      | some d2 => rlUp l n d2
      | none => rlFind l [42]
def route (l : List Rl) (d : Bs) : Option Rl := if (domV d).2 = 0 ∧ rlsMay l = true then rlUp l ((domV d).1.length + 1) (domV d).1 else none
theorem dotR_len : ∀ {d r : Bs}, dotR d = some r → r.length < d.length
  | [], _, h => by cases h
  | c :: d, r, h => by
    unfold dotR at h
    split at h
    · cases h; simp
    · have := dotR_len h; simp; omega
theorem rlUp_mem {l : List Rl} : ∀ {n : Nat} {d : Bs} {r : Rl}, rlUp l n d = some r → r ∈ l
  | 0, _, _, h => by cases h
  | n + 1, d, r, h => by
    unfold rlUp at h
    cases hf : rlFind l d with
    | some x => rw [hf] at h; cases h; exact List.mem_of_find?_eq_some hf
    | none =>
      rw [hf] at h
      cases hd : dotR d with
      | some d2 => rw [hd] at h; exact rlUp_mem h
      | none => rw [hd] at h; exact List.mem_of_find?_eq_some h
theorem route_kind {l : List Rl} {d : Bs} {r : Rl} (h : route l d = some r) : 1 ≤ r.2.1 ∧ r.2.1 ≤ 3 := by
  unfold route at h
  split at h
  · rename_i h1
    have hm := rlUp_mem h
    have h2 := h1.2
    unfold rlsMay at h2
    simp only [Bool.and_eq_true, List.all_eq_true] at h2
    have := h2.2.1 r hm
    unfold rlMay at this
    simp only [Bool.and_eq_true, decide_eq_true_eq] at this
    exact ⟨this.2.1, this.2.2.1⟩
  · cases h

/-! ### a session -/
/-- What happens: kind 0, a reply; 1, an offer; 2, the end. -/
structure Ev where
  kind : Int
  code : Int
  lines : List Bs
  text : Bs
  frm : Mb
  rcs : List Mb
  body : Bs
structure Tr where
  opened : Bool
  frm : Mb
  rcs : List Mb
  lines : List Bs
  size : Nat
  long : Bool
def tr0 : Tr := ⟨false, ([], []), [], [], 0, false⟩
structure Cf where
  host : Bs
  most : Nat
  rules : List Rl
  boxes : List Mb
/-- A session: what it knows, what came, and what it said. -/
structure Sv where
  c : Cf
  came : Bs
  phase : Nat
  greet : Bs
  t : Tr
  errs : Nat
  queue : List Ev

def evSay (code : Int) (l : List Bs) : Ev := ⟨0, code, l, [], ([], []), [], []⟩
def evOver : Ev := ⟨2, 0, [], [], ([], []), [], []⟩
def ready : Bs := [32, 114, 101, 97, 100, 121]
def svWords (host : Bs) (code : Int) : Bs :=
  if code = 220 then host ++ ready
  else if code = 221 then [98, 121, 101]
  else if code = 252 then [109, 97, 121, 98, 101]
  else if code = 354 then [103, 111, 32, 111, 110]
  else if code = 421 then [99, 108, 111, 115, 105, 110, 103]
  else if code = 452 then [108, 97, 116, 101, 114]
  else if code = 500 then [119, 104, 97, 116]
  else if code = 501 then [104, 111, 119]
  else if code = 503 then [110, 111, 116, 32, 110, 111, 119]
  else if code = 550 then [110, 111, 32, 115, 117, 99, 104]
  else if code = 552 then [116, 111, 111, 32, 108, 97, 114, 103, 101]
  else if code = 554 then [110, 111]
  else [111, 107]
def Sv.put (s : Sv) (e : Ev) : Sv := { s with queue := s.queue ++ [e] }
def Sv.finis (s : Sv) (code : Int) : Sv := { (s.put (evSay code [svWords s.c.host code])).put evOver with phase := 3 }
def Sv.say (s : Sv) (code : Int) : Sv :=
  let s1 : Sv := { s with errs := if 500 ≤ code then s.errs + 1 else s.errs }
  if 10 ≤ s1.errs ∨ code = 221 then s1.finis (if code = 221 then 221 else 421) else s1.put (evSay code [svWords s.c.host code])
def Sv.forget (s : Sv) : Sv := { s with t := tr0 }
def Cf.taken (c : Cf) (b : Mb) : Bool := match route c.rules b.2 with
  | some r => r.2.1 == 2 || (r.2.1 == 1 && c.boxes.contains b)
  | none => false
def sizeT : Bs := [83, 73, 90, 69, 32]
def eightT : Bs := [56, 66, 73, 84, 77, 73, 77, 69]
def pipeT : Bs := [80, 73, 80, 69, 76, 73, 78, 73, 78, 71]
def Sv.meet (s : Sv) (c : Cm) : Sv :=
  ({ s.forget with greet := c.text }).put (evSay 250 (if c.verb = 1 then [s.c.host] else [s.c.host, sizeT ++ decDigits s.c.most, eightT, pipeT]))
def Sv.from (s : Sv) (c : Cm) : Int × Sv :=
  if s.greet = [] ∨ s.t.opened = true then (503, s)
  else if (s.c.most : Int) < c.size then (552, s)
  else (250, { s with t := ⟨true, c.box, [], [], 0, false⟩ })
def Sv.rcpt (s : Sv) (c : Cm) : Int × Sv :=
  if s.t.opened = false then (503, s)
  else if 10 ≤ s.t.rcs.length ∧ c.box ∉ s.t.rcs then (452, s)
  else if s.c.taken c.box = false then (550, s)
  else if c.box ∉ s.t.rcs then (250, { s with t := { s.t with rcs := s.t.rcs ++ [c.box] } })
  else (250, s)
def Sv.data (s : Sv) : Int × Sv := if s.t.opened = false ∨ s.t.rcs = [] then (503, s) else (354, { s with phase := 1 })
def Sv.did (x : Int × Sv) : Sv := x.2.say x.1
def Sv.obey (s : Sv) (c : Cm) : Sv :=
  if c.verb = 1 ∨ c.verb = 2 then s.meet c
  else if c.verb = 3 then Sv.did (s.from c)
  else if c.verb = 4 then Sv.did (s.rcpt c)
  else if c.verb = 5 then Sv.did s.data
  else if c.verb = 8 then s.say 221
  else if c.verb = 9 then s.say 252
  else if c.verb = 6 then s.forget.say 250
  else s.say 250
def Sv.command (s : Sv) (l : Bs) : Sv :=
  if (cmParse l).2 = 1 then s.say 500
  else if (cmParse l).2 ≠ 0 then s.say 501
  else s.obey (cmParse l).1
def Sv.ended (s : Sv) : Sv :=
  if s.t.long = true then ({ s.forget with phase := 0 }).say 500
  else if s.c.most < s.t.size then ({ s.forget with phase := 0 }).say 552
  else ({ s with phase := 2 }).put ⟨1, 0, [], s.greet, s.t.frm, s.t.rcs, lnJoin s.t.lines⟩
def Sv.line (s : Sv) (l : Bs) : Sv :=
  if l = [46] then s.ended
  else
    let n := min (s.t.size + (undot l).length + 2) 15001
    { s with t := { s.t with size := n, lines := if n ≤ s.c.most then s.t.lines ++ [undot l] else s.t.lines } }
def Sv.take (s : Sv) (l : Bs) : Sv :=
  if s.phase = 1 then (if 1000 < l.length then { s with t := { s.t with long := true } } else s.line l)
  else if 510 < l.length then s.say 500 else s.command l
/-- The next line, and what stands behind it. -/
def lnNext (s : Bs) : Option (Bs × Bs) := match (crR s).1 with
  | [] => none
  | x :: _ => some (x, s.drop (x.length + 2))
def Sv.run : Nat → Sv → Sv
  | 0, s => s
  | n + 1, s => if s.queue = [] ∧ s.phase < 2 then
      match lnNext s.came with
      | none => s
      | some (x, r) => Sv.run n (({ s with came := r }).take x)
    else s
def Sv.pull (s : Sv) : Sv := Sv.run (s.came.length + 1) s
def Sv.next (s : Sv) : Option Ev × Sv := match s.pull.queue with
  | [] => (none, s.pull)
  | e :: q => (some e, { s.pull with queue := q })
def Sv.add (s : Sv) (b : Bs) : Sv := if s.phase = 3 then s else { s with came := s.came ++ b }
def verdictCode (e : Int) : Int := if e = 0 then 250 else if e = 1 ∨ e = 2 ∨ e = 5 then 554 else 452
def Sv.verdict (s : Sv) (e : Int) : Sv := if s.phase = 2 then ({ s.forget with phase := 0 }).say (verdictCode e) else s
def cfMay (host : Bs) (most : Int) (rules : List Rl) (boxes : List Mb) : Bool :=
  ((domV host).2 == 0 && (domV host).1 == host) && (decide (1 ≤ most) && (decide (most ≤ 15000) && (rlsMay rules && (decide (boxes.length ≤ 100) && boxes.all mbMay))))
def svNew (c : Cf) : Sv := (⟨c, [], 0, [], tr0, 0, []⟩ : Sv).say 220

/-! ### lines -/
theorem crR_app : ∀ (a b : Bs), crR (a ++ b) = ((crR a).1 ++ (crR ((crR a).2 ++ b)).1, (crR ((crR a).2 ++ b)).2) := by
  intro a b
  obtain ⟨h1, h2⟩ := crR_back a.length a (Nat.le_refl _)
  generalize hq : crR a = q at *
  obtain ⟨l, r⟩ := q
  dsimp only at *
  rw [← h1, List.append_assoc, crR_join l (r ++ b) h2]
theorem lnNext_some {s x r : Bs} (h : lnNext s = some (x, r)) : s = x ++ 13 :: 10 :: r ∧ noCr x = true ∧ crR s = (x :: (crR r).1, (crR r).2) := by
  obtain ⟨h1, h2⟩ := crR_back s.length s (Nat.le_refl _)
  unfold lnNext at h
  generalize hq : crR s = q at *
  obtain ⟨l, t⟩ := q
  dsimp only at *
  cases l with
  | nil => cases h
  | cons y l =>
    simp only [Option.some.injEq, Prod.mk.injEq] at h
    obtain ⟨rfl, h4⟩ := h
    have hy := h2 y (by simp)
    have e : s = y ++ 13 :: 10 :: (lnJoin l ++ t) := by
      rw [← h1]
      simp [lnJoin]
    have er : r = lnJoin l ++ t := by
      rw [← h4, e]
      rw [show y ++ 13 :: 10 :: (lnJoin l ++ t) = (y ++ [13, 10]) ++ (lnJoin l ++ t) by simp]
      rw [List.drop_append_of_le_length (by simp)]
      simp
    subst er
    refine ⟨e, hy, ?_⟩
    rw [← hq, e, crR_line y _ hy]
theorem lnNext_none {s : Bs} (h : lnNext s = none) : crR s = ([], s) := by
  obtain ⟨h1, _⟩ := crR_back s.length s (Nat.le_refl _)
  unfold lnNext at h
  generalize hq : crR s = q at *
  obtain ⟨l, t⟩ := q
  cases l with
  | nil => dsimp only at h1; rw [show t = s by simpa [lnJoin] using h1]
  | cons y l => cases h
theorem lnNext_of {s : Bs} {x : Bs} {l : List Bs} {t : Bs} (h : crR s = (x :: l, t)) : ∃ r, lnNext s = some (x, r) ∧ crR r = (l, t) := by
  have h0 : lnNext s = some (x, s.drop (x.length + 2)) := by
    unfold lnNext
    rw [h]
  obtain ⟨_, _, h3⟩ := lnNext_some h0
  rw [h] at h3
  refine ⟨_, h0, ?_⟩
  simp only [Prod.mk.injEq, List.cons.injEq, true_and] at h3
  rw [h3.1, h3.2]
theorem lnNext_len {s x r : Bs} (h : lnNext s = some (x, r)) : r.length + x.length + 2 = s.length := by
  rw [(lnNext_some h).1]
  simp
  omega
theorem undot_len (s : Bs) : (undot s).length ≤ s.length := by
  unfold undot
  split
  · simp
  · omega

/-! ### the queue, and what came, are no part of what is done -/
structure Core where
  c : Cf
  phase : Nat
  greet : Bs
  t : Tr
  errs : Nat
def Sv.core (s : Sv) : Core := ⟨s.c, s.phase, s.greet, s.t, s.errs⟩
def Core.sv (k : Core) (came : Bs) (q : List Ev) : Sv := ⟨k.c, came, k.phase, k.greet, k.t, k.errs, q⟩
theorem Sv.core_sv (s : Sv) : s.core.sv s.came s.queue = s := rfl
/-- A step that only adds to the queue, whatever is in it, and hangs on no bytes that came. -/
def Puts (f : Sv → Sv) : Prop := ∀ s : Sv, f s = (f (s.core.sv [] [])).core.sv s.came (s.queue ++ (f (s.core.sv [] [])).queue)
theorem puts_say (c : Int) : Puts (fun s => s.say c) := by
  intro s
  unfold Sv.say Sv.finis Sv.put Core.sv Sv.core
  dsimp only
  by_cases h : 10 ≤ (if 500 ≤ c then s.errs + 1 else s.errs) ∨ c = 221
  · rw [if_pos h, if_pos h]; simp
  · rw [if_neg h, if_neg h]; simp
theorem Puts.after {f g : Sv → Sv} (hf : Puts f) (hg : Puts g) (hq : ∀ s : Sv, (g s).queue = s.queue) : Puts (fun s => f (g s)) := by
  intro s
  show f (g s) = _
  have h2 : g s = (g (s.core.sv [] [])).core.sv s.came s.queue := by
    have := hg s
    rw [this]
    have h3 := hq (s.core.sv [] [])
    rw [h3]
    simp [Core.sv, Sv.core]
  have h3 : g (s.core.sv [] []) = (g (s.core.sv [] [])).core.sv [] [] := by
    have h4 := hg (s.core.sv [] [])
    have h5 := hq (s.core.sv [] [])
    generalize hx : g (s.core.sv [] []) = x at *
    have h6 : (s.core.sv [] []).core.sv [] [] = s.core.sv [] [] := rfl
    rw [h6, hx] at h4
    rw [h4]
    have h7 : x.queue = [] := h5
    rw [h7]
    rfl
  have h1 := hf (g s)
  rw [h1, h2]
  rw [show ((g (s.core.sv [] [])).core.sv s.came s.queue).core = (g (s.core.sv [] [])).core from rfl]
  rw [← h3]
  rfl
end Go.Proofs.YtapenolbbofjkaaGreatDoor

/-! SvD -/
namespace Go.Proofs.YtapenolbbofjkaaGreatDoor

/-- A step that only adds to the queue, whatever is in it, and hangs on no bytes that came. -/
def Adds (f : Sv → Sv) : Prop := ∀ (k : Core) (came : Bs) (q : List Ev), f (k.sv came q) = (f (k.sv [] [])).core.sv came (q ++ (f (k.sv [] [])).queue)
theorem adds_say (c : Int) : Adds (fun s => s.say c) := by
  intro k came q
  unfold Sv.say Sv.finis Sv.put Core.sv Sv.core
  dsimp only
  by_cases h : 10 ≤ (if 500 ≤ c then k.errs + 1 else k.errs) ∨ c = 221
  · rw [if_pos h, if_pos h]; simp
  · rw [if_neg h, if_neg h]; simp
theorem adds_verdict (e : Int) : Adds (fun s => s.verdict e) := by
  intro k came q
  unfold Sv.verdict
  show (if k.phase = 2 then _ else _) = (if k.phase = 2 then _ else _ : Sv).core.sv came (q ++ (if k.phase = 2 then _ else _ : Sv).queue)
  by_cases h : k.phase = 2
  · rw [if_pos h, if_pos h]
    exact adds_say (verdictCode e) ⟨k.c, 0, k.greet, tr0, k.errs⟩ came q
  · rw [if_neg h, if_neg h]
    simp [Core.sv, Sv.core]
/-- A step that chooses a code, and says it. -/
theorem adds_did {g : Sv → Int × Sv} (h : ∀ k : Core, ∃ (c : Int) (k2 : Core), ∀ came q, g (k.sv came q) = (c, k2.sv came q)) : Adds (fun s => Sv.did (g s)) := by
  intro k came q
  obtain ⟨c, k2, e⟩ := h k
  show Sv.did (g (k.sv came q)) = (Sv.did (g (k.sv [] []))).core.sv came (q ++ (Sv.did (g (k.sv [] []))).queue)
  rw [e, e]
  exact adds_say c k2 came q
theorem adds_from (c : Cm) : Adds (fun s => Sv.did (s.from c)) := adds_did fun k => by
  by_cases h1 : k.greet = [] ∨ k.t.opened = true
  · exact ⟨503, k, fun _ _ => if_pos h1⟩
  · by_cases h2 : (k.c.most : Int) < c.size
    · exact ⟨552, k, fun _ _ => (if_neg h1).trans (if_pos h2)⟩
    · exact ⟨250, { k with t := ⟨true, c.box, [], [], 0, false⟩ }, fun _ _ => (if_neg h1).trans (if_neg h2)⟩
theorem adds_rcpt (c : Cm) : Adds (fun s => Sv.did (s.rcpt c)) := adds_did fun k => by
  by_cases h1 : k.t.opened = false
  · exact ⟨503, k, fun _ _ => if_pos h1⟩
  · by_cases h2 : 10 ≤ k.t.rcs.length ∧ c.box ∉ k.t.rcs
    · exact ⟨452, k, fun _ _ => (if_neg h1).trans (if_pos h2)⟩
    · by_cases h3 : k.c.taken c.box = false
      · exact ⟨550, k, fun _ _ => (if_neg h1).trans ((if_neg h2).trans (if_pos h3))⟩
      · by_cases h4 : c.box ∉ k.t.rcs
        · exact ⟨250, { k with t := { k.t with rcs := k.t.rcs ++ [c.box] } }, fun _ _ => (if_neg h1).trans ((if_neg h2).trans ((if_neg h3).trans (if_pos h4)))⟩
        · exact ⟨250, k, fun _ _ => (if_neg h1).trans ((if_neg h2).trans ((if_neg h3).trans (if_neg h4)))⟩
theorem adds_data : Adds (fun s => Sv.did s.data) := adds_did fun k => by
  by_cases h1 : k.t.opened = false ∨ k.t.rcs = []
  · exact ⟨503, k, fun _ _ => if_pos h1⟩
  · exact ⟨354, { k with phase := 1 }, fun _ _ => if_neg h1⟩
theorem adds_meet (c : Cm) : Adds (fun s => s.meet c) := by
  intro k came q
  simp [Sv.meet, Sv.forget, Sv.put, Core.sv, Sv.core]
theorem Adds.cond {p : Prop} [Decidable p] {f g : Sv → Sv} (hf : Adds f) (hg : Adds g) : Adds (fun s => if p then f s else g s) := by
  intro k came q
  by_cases h : p
  · simp only [if_pos h]
    exact hf k came q
  · simp only [if_neg h]
    exact hg k came q
theorem adds_rset : Adds (fun s => s.forget.say 250) := fun k came q => adds_say 250 { k with t := tr0 } came q
theorem adds_obey (c : Cm) : Adds (fun s => s.obey c) :=
  (adds_meet c).cond ((adds_from c).cond ((adds_rcpt c).cond (adds_data.cond ((adds_say 221).cond ((adds_say 252).cond (adds_rset.cond (adds_say 250)))))))
theorem adds_command (l : Bs) : Adds (fun s => s.command l) := (adds_say 500).cond ((adds_say 501).cond (adds_obey (cmParse l).1))
theorem adds_ended : Adds (fun s => s.ended) := by
  intro k came q
  by_cases h1 : k.t.long = true
  · have e : ∀ came q, (k.sv came q).ended = Sv.say (({ k with phase := 0, t := tr0 } : Core).sv came q) 500 := fun _ _ => if_pos h1
    show (k.sv came q).ended = ((k.sv [] []).ended).core.sv came (q ++ ((k.sv [] []).ended).queue)
    rw [e, e]
    exact adds_say 500 _ came q
  · by_cases h2 : k.c.most < k.t.size
    · have e : ∀ came q, (k.sv came q).ended = Sv.say (({ k with phase := 0, t := tr0 } : Core).sv came q) 552 := fun _ _ => (if_neg h1).trans (if_pos h2)
      show (k.sv came q).ended = ((k.sv [] []).ended).core.sv came (q ++ ((k.sv [] []).ended).queue)
      rw [e, e]
      exact adds_say 552 _ came q
    · have e : ∀ came q, (k.sv came q).ended = (({ k with phase := 2 } : Core).sv came q).put ⟨1, 0, [], k.greet, k.t.frm, k.t.rcs, lnJoin k.t.lines⟩ := fun _ _ => (if_neg h1).trans (if_neg h2)
      show (k.sv came q).ended = ((k.sv [] []).ended).core.sv came (q ++ ((k.sv [] []).ended).queue)
      rw [e, e]
      simp [Sv.put, Core.sv, Sv.core]
theorem adds_line (l : Bs) : Adds (fun s => s.line l) := by
  refine adds_ended.cond ?_
  intro k came q
  simp [Core.sv, Sv.core]
  rfl
theorem adds_take (l : Bs) : Adds (fun s => s.take l) := by
  intro k came q
  by_cases h1 : k.phase = 1
  · by_cases h2 : 1000 < l.length
    · have e : ∀ came q, (k.sv came q).take l = ({ k with t := { k.t with long := true } } : Core).sv came q := fun _ _ => (if_pos h1).trans (if_pos h2)
      show (k.sv came q).take l = ((k.sv [] []).take l).core.sv came (q ++ ((k.sv [] []).take l).queue)
      rw [e, e]
      simp [Core.sv, Sv.core]
    · have e : ∀ came q, (k.sv came q).take l = (k.sv came q).line l := fun _ _ => (if_pos h1).trans (if_neg h2)
      show (k.sv came q).take l = ((k.sv [] []).take l).core.sv came (q ++ ((k.sv [] []).take l).queue)
      rw [e, e]
      exact adds_line l k came q
  · by_cases h2 : 510 < l.length
    · have e : ∀ came q, (k.sv came q).take l = (k.sv came q).say 500 := fun _ _ => (if_neg h1).trans (if_pos h2)
      show (k.sv came q).take l = ((k.sv [] []).take l).core.sv came (q ++ ((k.sv [] []).take l).queue)
      rw [e, e]
      exact adds_say 500 k came q
    · have e : ∀ came q, (k.sv came q).take l = (k.sv came q).command l := fun _ _ => (if_neg h1).trans (if_neg h2)
      show (k.sv came q).take l = ((k.sv [] []).take l).core.sv came (q ++ ((k.sv [] []).take l).queue)
      rw [e, e]
      exact adds_command l k came q

/-! ### lines, one by one -/
def act1 (k : Core) (l : Bs) : Core × List Ev := (((k.sv [] []).take l).core, ((k.sv [] []).take l).queue)
def settle (e : Int) (k : Core) : Core × List Ev := (((k.sv [] []).verdict e).core, ((k.sv [] []).verdict e).queue)
/-- A line, and the verdict, if it lets an offer happen. -/
def lineV (e : Int) (k : Core) (l : Bs) : Core × List Ev := ((settle e (act1 k l).1).1, (act1 k l).2 ++ (settle e (act1 k l).1).2)
def linesV (e : Int) : Core → List Bs → Core × List Ev
  | k, [] => (k, [])
  | k, l :: ls => if k.phase = 3 then (k, []) else ((linesV e (lineV e k l).1 ls).1, (lineV e k l).2 ++ (linesV e (lineV e k l).1 ls).2)
theorem linesV_over (e : Int) {k : Core} (h : k.phase = 3) : ∀ ls, linesV e k ls = (k, [])
  | [] => rfl
  | l :: ls => by rw [linesV, if_pos h]
theorem linesV_app (e : Int) : ∀ (a : List Bs) (k : Core) (b : List Bs), linesV e k (a ++ b) = ((linesV e (linesV e k a).1 b).1, (linesV e k a).2 ++ (linesV e (linesV e k a).1 b).2)
  | [], k, b => by simp [linesV]
  | l :: a, k, b => by
    by_cases h : k.phase = 3
    · rw [linesV_over e h, linesV_over e h, linesV_over e h]
      rfl
    · rw [List.cons_append, linesV, if_neg h, linesV, if_neg h, linesV_app e a]
      simp
theorem settle_idle (e : Int) {k : Core} (h : k.phase ≠ 2) : settle e k = (k, []) := by
  unfold settle Sv.verdict
  rw [if_neg (show ¬ (k.sv [] []).phase = 2 from h)]
  rfl
theorem take_core (k : Core) (came : Bs) (q : List Ev) (l : Bs) : (k.sv came q).take l = (act1 k l).1.sv came (q ++ (act1 k l).2) := adds_take l k came q
theorem verdict_core (e : Int) (k : Core) (came : Bs) (q : List Ev) : (k.sv came q).verdict e = (settle e k).1.sv came (q ++ (settle e k).2) := adds_verdict e k came q
end Go.Proofs.YtapenolbbofjkaaGreatDoor

/-! SvE -/
namespace Go.Proofs.YtapenolbbofjkaaGreatDoor

/-! ### pull and next -/
theorem run_more : ∀ (n m : Nat) (s : Sv), s.came.length < n → s.came.length < m → Sv.run n s = Sv.run m s
  | 0, _, _, h, _ => by omega
  | _ + 1, 0, _, _, h => by omega
  | n + 1, m + 1, s, hn, hm => by
    unfold Sv.run
    by_cases h : s.queue = [] ∧ s.phase < 2
    · rw [if_pos h, if_pos h]
      cases hl : lnNext s.came with
      | none => rfl
      | some q =>
        obtain ⟨x, r⟩ := q
        have h1 := lnNext_len hl
        have h2 : (({ s with came := r } : Sv).take x).came = r := by
          have := take_core s.core r s.queue x
          rw [show ({ s with came := r } : Sv) = s.core.sv r s.queue from rfl, this]
          rfl
        exact run_more n m _ (by rw [h2]; omega) (by rw [h2]; omega)
    · rw [if_neg h, if_neg h]
theorem pull_idle {s : Sv} (h : ¬ (s.queue = [] ∧ s.phase < 2)) : s.pull = s := by
  unfold Sv.pull Sv.run
  rw [if_neg h]
theorem pull_none {s : Sv} (h : lnNext s.came = none) : s.pull = s := by
  unfold Sv.pull Sv.run
  rw [h]
  split <;> rfl
theorem pull_some {s : Sv} {x r : Bs} (hq : s.queue = []) (hp : s.phase < 2) (h : lnNext s.came = some (x, r)) : s.pull = (((act1 s.core x).1).sv r (act1 s.core x).2).pull := by
  have h1 := lnNext_len h
  have h2 := take_core s.core r [] x
  rw [List.nil_append] at h2
  unfold Sv.pull
  rw [Sv.run, if_pos ⟨hq, hp⟩, h]
  show Sv.run s.came.length (({ s with came := r } : Sv).take x) = _
  rw [show ({ s with came := r } : Sv) = s.core.sv r [] by unfold Core.sv Sv.core; rw [← hq], h2]
  exact run_more _ _ _ (by show r.length < _; omega) (by show r.length < _; exact Nat.lt_succ_self _)
theorem next_pull {s t : Sv} (h : s.pull = t.pull) : s.next = t.next := by
  unfold Sv.next
  rw [h]
theorem next_some {s : Sv} {x : Ev} {q : List Ev} (h : s.queue = x :: q) : s.next = (some x, { s with queue := q }) := by
  have h1 : s.pull = s := pull_idle (by rintro ⟨h2, _⟩; rw [h] at h2; cases h2)
  unfold Sv.next
  rw [h1, h]
theorem next_none {s : Sv} (h : s.queue = []) (h1 : s.pull = s) : s.next = (none, s) := by
  unfold Sv.next
  rw [h1, h]

/-! ### how much a line lets happen -/
theorem say_bound {s : Sv} (hq : s.queue = []) (c : Int) : ((s.say c).queue.length = 1 ∧ (s.say c).phase = s.phase) ∨ ((s.say c).queue.length = 2 ∧ (s.say c).phase = 3) := by
  unfold Sv.say
  dsimp only
  generalize (if 500 ≤ c then s.errs + 1 else s.errs) = n
  by_cases h : 10 ≤ n ∨ c = 221
  · rw [if_pos h]
    refine .inr ⟨?_, rfl⟩
    show ((s.queue ++ [_]) ++ [_]).length = 2
    rw [hq]
    rfl
  · rw [if_neg h]
    refine .inl ⟨?_, rfl⟩
    show (s.queue ++ [_]).length = 1
    rw [hq]
    rfl
/-- What a phase may still let happen. -/
def weight (p : Nat) : Nat := if p = 3 then 0 else if p = 2 then 3 else if p = 1 then 2 else 1
def Few (n : Nat) (s : Sv) : Prop := s.queue.length + weight s.phase ≤ n ∧ s.phase ≤ 3
theorem few_say {s : Sv} (hq : s.queue = []) (hp : s.phase < 2) (c : Int) : Few (2 + weight s.phase) (s.say c) := by
  rcases say_bound hq c with ⟨h1, h2⟩ | ⟨h1, h2⟩
  · exact ⟨by rw [h1, h2]; omega, by omega⟩
  · exact ⟨by rw [h1, h2]; simp [weight], by omega⟩
theorem Few.more {n m : Nat} {s : Sv} (h : Few n s) (hm : n ≤ m) : Few m s := ⟨Nat.le_trans h.1 hm, h.2⟩
theorem few_did {s : Sv} (hq : s.queue = []) {x : Int × Sv} (h1 : x.2.queue = s.queue) (h2 : x.2.phase = s.phase) (hp : s.phase < 2) : Few (2 + weight s.phase) (Sv.did x) := by
  rw [← h2]
  exact few_say (h1.trans hq) (by omega) x.1
theorem few_command {s : Sv} (hq : s.queue = []) (hp : s.phase < 2) (l : Bs) : Few (2 + weight s.phase) (s.command l) := by
  unfold Sv.command
  split
  · exact few_say hq hp _
  split
  · exact few_say hq hp _
  unfold Sv.obey
  split
  · unfold Sv.meet Sv.put Sv.forget Few
    dsimp only
    rw [hq]
    exact ⟨by simp only [List.nil_append, List.length_cons, List.length_nil]; omega, by omega⟩
  split
  · unfold Sv.from
    split
    · exact few_did hq rfl rfl hp
    split
    · exact few_did hq rfl rfl hp
    · exact few_did hq rfl rfl hp
  split
  · unfold Sv.rcpt
    split
    · exact few_did hq rfl rfl hp
    split
    · exact few_did hq rfl rfl hp
    split
    · exact few_did hq rfl rfl hp
    split
    · exact few_did hq rfl rfl hp
    · exact few_did hq rfl rfl hp
  split
  · unfold Sv.data
    split
    · exact few_did hq rfl rfl hp
    · rcases say_bound (s := { s with phase := 1 }) hq 354 with ⟨h1, h2⟩ | ⟨h1, h2⟩
      · refine ⟨?_, by show (Sv.say _ _).phase ≤ 3; rw [h2]; exact (by decide : (1:Nat) ≤ 3)⟩
        show (Sv.say _ _).queue.length + weight (Sv.say _ _).phase ≤ _
        rw [h1, h2]
        unfold weight
        have : s.phase = 0 ∨ s.phase = 1 := by omega
        rcases this with h | h <;> simp [h]
      · refine ⟨?_, by show (Sv.say _ _).phase ≤ 3; rw [h2]; decide⟩
        show (Sv.say _ _).queue.length + weight (Sv.say _ _).phase ≤ _
        rw [h1, h2]
        simp [weight]
  split
  · exact few_say hq hp _
  split
  · exact few_say hq hp _
  split
  · exact few_say (s := s.forget) hq hp _
  · exact few_say hq hp _
theorem few_take {s : Sv} (hq : s.queue = []) (hp : s.phase < 2) (l : Bs) : Few (2 + weight s.phase) (s.take l) := by
  unfold Sv.take
  split
  · rename_i hp1
    split
    · exact ⟨by show s.queue.length + weight s.phase ≤ _; rw [hq]; simp, by show s.phase ≤ 3; omega⟩
    · unfold Sv.line
      split
      · unfold Sv.ended
        split
        · exact (few_say (s := { s.forget with phase := 0 }) hq (show (0 : Nat) < 2 by decide) _).more (by rw [hp1]; show 2 + weight 0 ≤ 2 + weight 1; decide)
        split
        · exact (few_say (s := { s.forget with phase := 0 }) hq (show (0 : Nat) < 2 by decide) _).more (by rw [hp1]; show 2 + weight 0 ≤ 2 + weight 1; decide)
        · unfold Sv.put Few
          dsimp only
          rw [hq, hp1]
          exact ⟨by simp [weight], by decide⟩
      · exact ⟨by show s.queue.length + weight s.phase ≤ _; rw [hq]; simp, by show s.phase ≤ 3; omega⟩
  · split
    · exact few_say hq hp _
    · exact few_command hq hp l
theorem few_act1 {k : Core} (hp : k.phase < 2) (l : Bs) : (act1 k l).2.length + weight (act1 k l).1.phase ≤ 2 + weight k.phase ∧ (act1 k l).1.phase ≤ 3 := few_take (s := k.sv [] []) rfl hp l
theorem settle_bound (e : Int) (k : Core) (hk : k.phase = 2) : (settle e k).2.length + weight (settle e k).1.phase + 1 ≤ weight k.phase ∧ (settle e k).1.phase ≠ 2 ∧ (settle e k).1.phase ≤ 3 := by
  unfold settle Sv.verdict
  rw [if_pos (show (k.sv [] []).phase = 2 from hk), hk]
  show (Sv.say _ _).queue.length + weight (Sv.say _ _).phase + 1 ≤ _ ∧ (Sv.say _ _).phase ≠ 2 ∧ (Sv.say _ _).phase ≤ 3
  rcases say_bound (s := { (k.sv [] []).forget with phase := 0 }) rfl (verdictCode e) with ⟨h1, h2⟩ | ⟨h1, h2⟩ <;> rw [h1, h2] <;> simp [weight]

/-! ### drain -/
/-- What is told till there is nothing (n times at most); a verdict whenever it waits. -/
def Sv.drain (e : Int) : Nat → Sv → List Ev × Sv
  | 0, s => ([], s)
  | n + 1, s => match s.next with
    | (some x, s2) => (x :: (Sv.drain e n s2).1, (Sv.drain e n s2).2)
    | (none, s2) => if s2.phase = 2 then Sv.drain e n (s2.verdict e) else ([], s2)
def load (p : Nat) (came : Bs) : Nat := if p = 3 then 0 else 2 * (crR came).1.length
theorem load_le (p : Nat) (came : Bs) : load p came ≤ 2 * (crR came).1.length := by unfold load; split <;> omega
theorem load_go {p : Nat} (h : p ≠ 3) (came : Bs) : load p came = 2 * (crR came).1.length := by unfold load; rw [if_neg h]
def Sv.work (s : Sv) : Nat := s.queue.length + weight s.phase + load s.phase s.came + 1
/-- What draining comes to: all lines, one by one. -/
structure Drained (e : Int) (s : Sv) (x : List Ev × Sv) : Prop where
  evs : x.1 = s.queue ++ ((settle e s.core).2 ++ (linesV e (settle e s.core).1 (crR s.came).1).2)
  core : x.2.core = (linesV e (settle e s.core).1 (crR s.came).1).1
  queue : x.2.queue = []
  came : x.2.phase ≠ 3 → x.2.came = (crR s.came).2
  idle : x.2.phase ≠ 2
theorem drain_next {e : Int} {s t : Sv} (h : s.next = t.next) (n : Nat) (hn : 0 < n) : Sv.drain e n s = Sv.drain e n t := by
  obtain ⟨m, rfl⟩ : ∃ m, n = m + 1 := ⟨n - 1, by omega⟩
  unfold Sv.drain
  rw [h]
theorem drain_spec (e : Int) : ∀ (n c : Nat) (s : Sv), s.came.length ≤ c → s.phase ≤ 3 → s.work ≤ n → Drained e s (Sv.drain e n s)
  | 0, _, s, _, _, h => by unfold Sv.work at h; omega
  | n + 1, c, s, hc, hph, hw => by
    cases hq : s.queue with
    | cons x q =>
      have hn := next_some hq
      have ih := drain_spec e n s.came.length { s with queue := q } (Nat.le_refl _) hph (by
        unfold Sv.work at hw ⊢
        rw [hq] at hw
        simp only [List.length_cons] at hw ⊢
        omega)
      unfold Sv.drain
      rw [hn]
      dsimp only
      obtain ⟨i1, i2, i3, i4, i5⟩ := ih
      refine ⟨?_, i2, i3, i4, i5⟩
      rw [hq, i1]
      rfl
    | nil =>
      by_cases h2 : s.phase = 2
      · have hn := next_none hq (pull_idle (by rintro ⟨_, h⟩; omega))
        have hv : s.verdict e = ((settle e s.core).1).sv s.came (settle e s.core).2 := by
          have := verdict_core e s.core s.came s.queue
          rw [hq, List.nil_append] at this
          rw [← this, ← hq]
          rfl
        obtain ⟨b1, b2, hp3⟩ := settle_bound e s.core h2
        have ih := drain_spec e n s.came.length (((settle e s.core).1).sv s.came (settle e s.core).2) (Nat.le_refl _) hp3 (by
          unfold Sv.work at hw ⊢
          have b3 : weight s.core.phase = weight s.phase := rfl
          have b4 := load_le (settle e s.core).1.phase s.came
          rw [load_go (by omega) s.came] at hw
          show (settle e s.core).2.length + weight (settle e s.core).1.phase + load (settle e s.core).1.phase s.came + 1 ≤ n
          omega)
        unfold Sv.drain
        rw [hn]
        dsimp only
        rw [if_pos h2, hv]
        obtain ⟨i1, i2, i3, i4, i5⟩ := ih
        have hid : settle e (settle e s.core).1 = ((settle e s.core).1, []) := settle_idle e b2
        have hco : (((settle e s.core).1).sv s.came (settle e s.core).2).core = (settle e s.core).1 := rfl
        rw [hco, hid] at i1 i2
        refine ⟨?_, i2, i3, i4, i5⟩
        rw [hq, i1]
        rfl
      · have hid : settle e s.core = (s.core, []) := settle_idle e h2
        by_cases h3 : s.phase = 3
        · have hn := next_none hq (pull_idle (by rintro ⟨_, h⟩; omega))
          unfold Sv.drain
          rw [hn]
          dsimp only
          rw [if_neg h2]
          have hov := linesV_over e (k := s.core) h3 (crR s.came).1
          refine ⟨?_, ?_, hq, fun h => absurd h3 h, h2⟩
          · rw [hid, hov, hq]; rfl
          · rw [hid, hov]
        · have hp : s.phase < 2 := by omega
          cases hl : lnNext s.came with
          | none =>
            have hn := next_none hq (pull_none hl)
            have hcr := lnNext_none hl
            unfold Sv.drain
            rw [hn]
            dsimp only
            rw [if_neg h2]
            refine ⟨?_, ?_, hq, fun _ => ?_, h2⟩
            · rw [hid, hcr, hq]; rfl
            · rw [hid, hcr]; rfl
            · rw [hcr]
          | some xr =>
            obtain ⟨x, r⟩ := xr
            have hlen := lnNext_len hl
            obtain ⟨_, _, hcr⟩ := lnNext_some hl
            obtain ⟨f1, hph2⟩ := few_act1 (k := s.core) hp x
            obtain ⟨c', rfl⟩ : ∃ c', c = c' + 1 := ⟨c - 1, by omega⟩
            have ih := drain_spec e (n + 1) c' (((act1 s.core x).1).sv r (act1 s.core x).2) (by show r.length ≤ c'; omega) hph2 (by
              unfold Sv.work at hw ⊢
              rw [load_go h3, hcr] at hw
              simp only [List.length_cons] at hw
              have b4 := load_le (act1 s.core x).1.phase r
              have b3 : weight s.core.phase = weight s.phase := rfl
              show (act1 s.core x).2.length + weight (act1 s.core x).1.phase + load (act1 s.core x).1.phase r + 1 ≤ n + 1
              omega)
            rw [drain_next (next_pull (pull_some hq hp hl)) (n + 1) (Nat.succ_pos n)]
            obtain ⟨i1, i2, i3, i4, i5⟩ := ih
            have hco : (((act1 s.core x).1).sv r (act1 s.core x).2).core = (act1 s.core x).1 := rfl
            have hlv : linesV e s.core (x :: (crR r).1) = ((linesV e (lineV e s.core x).1 (crR r).1).1, (lineV e s.core x).2 ++ (linesV e (lineV e s.core x).1 (crR r).1).2) := by
              rw [linesV, if_neg (show ¬ s.core.phase = 3 from h3)]
            rw [hco] at i1 i2
            refine ⟨?_, ?_, i3, fun h => ?_, i5⟩
            · rw [i1, hid, hcr, hlv, hq]
              show (act1 s.core x).2 ++ _ = [] ++ ([] ++ (((act1 s.core x).2 ++ (settle e (act1 s.core x).1).2) ++ _))
              simp only [List.nil_append, List.append_assoc]
              rfl
            · rw [i2, hid, hcr, hlv]
              rfl
            · rw [i4 h, hcr]
              rfl
  termination_by n c => (n, c)
end Go.Proofs.YtapenolbbofjkaaGreatDoor

/-! SvE2 -/
namespace Go.Proofs.YtapenolbbofjkaaGreatDoor

theorem Sv.add_core (s : Sv) (b : Bs) : (s.add b).core = s.core ∧ (s.add b).queue = s.queue ∧ (s.add b).phase = s.phase := by
  unfold Sv.add
  split <;> exact ⟨rfl, rfl, rfl⟩
/-- Piece by piece, drained each time. -/
def Sv.feed (e : Int) (n : Nat) : List Bs → Sv → List Ev × Sv
  | [], s => ([], s)
  | b :: l, s => (((s.add b).drain e n).1 ++ (Sv.feed e n l ((s.add b).drain e n).2).1, (Sv.feed e n l ((s.add b).drain e n).2).2)
def evsOf (e : Int) (s : Sv) (more : Bs) : List Ev := s.queue ++ ((settle e s.core).2 ++ (linesV e (settle e s.core).1 (crR (s.came ++ more)).1).2)
def coreOf (e : Int) (s : Sv) (more : Bs) : Core := (linesV e (settle e s.core).1 (crR (s.came ++ more)).1).1
theorem crR_len : ∀ (n : Nat) (s : Bs), s.length ≤ n → 2 * (crR s).1.length ≤ s.length := by
  intro n s _
  have h1 := (crR_back s.length s (Nat.le_refl _)).1
  generalize crR s = q at *
  obtain ⟨l, r⟩ := q
  dsimp only at *
  rw [← h1]
  clear h1
  induction l with
  | nil => simp
  | cons x l ih =>
    rw [show lnJoin (x :: l) = x ++ crlf ++ lnJoin l by simp [lnJoin]]
    simp only [List.length_append, List.length_cons, List.length_nil] at ih ⊢
    have : (crlf : Bs).length = 2 := rfl
    omega
theorem work_le {s : Sv} {q c : Nat} (hq : s.queue.length ≤ q) (hc : s.came.length ≤ c) : s.work ≤ q + 3 + c + 1 := by
  unfold Sv.work
  have h1 := crR_len s.came.length s.came (Nat.le_refl _)
  have h0 := load_le s.phase s.came
  have h2 : weight s.phase ≤ 3 := by
    unfold weight
    repeat (first | (split; · omega) | omega)
  omega
theorem linesV_phase (e : Int) : ∀ (l : List Bs) (k : Core), k.phase ≤ 3 → k.phase ≠ 2 → (linesV e k l).1.phase ≤ 3 ∧ (linesV e k l).1.phase ≠ 2
  | [], k, h, h2 => ⟨h, h2⟩
  | a :: l, k, h, h2 => by
    unfold linesV
    split
    · exact ⟨h, h2⟩
    · refine linesV_phase e l _ ?_ ?_ <;>
      · unfold lineV
        have h3 : (act1 k a).1.phase ≤ 3 := (few_act1 (by omega) a).2
        by_cases h4 : (act1 k a).1.phase = 2
        · have := settle_bound e _ h4
          first | exact this.2.2 | exact this.2.1
        · rw [settle_idle e h4]
          first | exact h3 | exact h4
theorem drained_phase {e : Int} {s : Sv} {x : List Ev × Sv} (h : Drained e s x) (hs : s.phase ≤ 3) : x.2.phase ≤ 3 := by
  have h1 : x.2.phase = x.2.core.phase := rfl
  rw [h1, h.core]
  refine (linesV_phase e _ _ ?_ ?_).1
  · by_cases h2 : s.core.phase = 2
    · exact (settle_bound e _ h2).2.2
    · rw [settle_idle e h2]; exact hs
  · by_cases h2 : s.core.phase = 2
    · exact (settle_bound e _ h2).2.1
    · rw [settle_idle e h2]; exact h2
theorem run_came : ∀ (n : Nat) (s : Sv), (Sv.run n s).came.length ≤ s.came.length
  | 0, _ => Nat.le_refl _
  | n + 1, s => by
    unfold Sv.run
    split
    · cases hl : lnNext s.came with
      | none => exact Nat.le_refl _
      | some q =>
        obtain ⟨x, r⟩ := q
        have h1 := lnNext_len hl
        have h2 := take_core s.core r s.queue x
        have h3 := run_came n (({ s with came := r } : Sv).take x)
        have h4 : (({ s with came := r } : Sv).take x).came = r := by
          rw [show ({ s with came := r } : Sv) = s.core.sv r s.queue from rfl, h2]
          rfl
        rw [h4] at h3
        show (Sv.run n (({ s with came := r } : Sv).take x)).came.length ≤ _
        omega
    · exact Nat.le_refl _
theorem next_came (s : Sv) : s.next.2.came.length ≤ s.came.length := by
  have h := run_came (s.came.length + 1) s
  unfold Sv.next
  split <;> exact h
theorem drain_came (e : Int) : ∀ (n : Nat) (s : Sv), (Sv.drain e n s).2.came.length ≤ s.came.length
  | 0, _ => Nat.le_refl _
  | n + 1, s => by
    have h := next_came s
    unfold Sv.drain
    generalize s.next = q at *
    obtain ⟨x, t⟩ := q
    cases x with
    | some x => exact Nat.le_trans (drain_came e n t) h
    | none =>
      dsimp only
      split
      · refine Nat.le_trans (drain_came e n _) ?_
        have := verdict_core e t.core t.came t.queue
        rw [show t.verdict e = (t.core.sv t.came t.queue).verdict e from rfl, this]
        exact h
      · exact h
theorem feed_spec (e : Int) (n : Nat) : ∀ (l : List Bs) (s : Sv), s.phase ≤ 3 → s.queue.length + s.came.length + l.flatten.length + 5 ≤ n →
    (Sv.feed e n l s).1 ++ (Sv.drain e n (Sv.feed e n l s).2).1 = evsOf e s l.flatten ∧ (Sv.drain e n (Sv.feed e n l s).2).2.core = coreOf e s l.flatten ∧ (Sv.feed e n l s).2.phase ≤ 3
  | [], s, hp, hn => by
    have hd := drain_spec e n s.came.length s (Nat.le_refl _) hp (Nat.le_trans (work_le (Nat.le_refl _) (Nat.le_refl _)) (by simp at hn; omega))
    unfold Sv.feed evsOf coreOf
    rw [List.flatten_nil, List.append_nil]
    exact ⟨hd.evs, hd.core, hp⟩
  | b :: l, s, hp, hn => by
    obtain ⟨a1, a2, a3⟩ := s.add_core b
    have hlen : (s.add b).came.length ≤ s.came.length + b.length := by
      unfold Sv.add
      split <;> simp
    rw [List.flatten_cons, List.length_append] at hn
    have hd := drain_spec e n (s.add b).came.length (s.add b) (Nat.le_refl _) (by rw [a3]; exact hp) (Nat.le_trans (work_le (Nat.le_refl _) (Nat.le_refl _)) (by rw [a2]; omega))
    have hdp := drained_phase hd (by rw [a3]; exact hp)
    have hcl : (Sv.drain e n (s.add b)).2.came.length ≤ s.came.length + b.length := by
      refine Nat.le_trans (drain_came e n (s.add b)) hlen
    obtain ⟨i1, i2, i3⟩ := feed_spec e n l (Sv.drain e n (s.add b)).2 hdp (by rw [hd.queue]; simp only [List.length_nil]; omega)
    have hidle : settle e (Sv.drain e n (s.add b)).2.core = ((Sv.drain e n (s.add b)).2.core, []) := settle_idle e hd.idle
    have key : evsOf e s (b :: l).flatten = (Sv.drain e n (s.add b)).1 ++ evsOf e (Sv.drain e n (s.add b)).2 l.flatten ∧ coreOf e s (b :: l).flatten = coreOf e (Sv.drain e n (s.add b)).2 l.flatten := by
      unfold evsOf coreOf
      rw [hidle, hd.queue, hd.evs, hd.core, a1, a2]
      simp only [List.nil_append, List.append_assoc]
      by_cases h3 : s.phase = 3
      · have hs : settle e s.core = (s.core, []) := settle_idle e (show s.core.phase ≠ 2 by show s.phase ≠ 2; omega)
        rw [hs]
        dsimp only
        rw [linesV_over e (show s.core.phase = 3 from h3), linesV_over e (show s.core.phase = 3 from h3), linesV_over e (show s.core.phase = 3 from h3)]
        simp
      · have hca : (s.add b).came = s.came ++ b := by unfold Sv.add; rw [if_neg h3]
        rw [hca]
        by_cases h4 : (Sv.drain e n (s.add b)).2.phase = 3
        · have hk : ((linesV e (settle e s.core).1 (crR (s.came ++ b)).1).1).phase = 3 := by
            have := hd.core
            rw [a1, hca] at this
            rw [← this]
            exact h4
          rw [linesV_over e hk]
          rw [List.flatten_cons, show s.came ++ (b ++ l.flatten) = (s.came ++ b) ++ l.flatten from (List.append_assoc _ _ _).symm, crR_app (s.came ++ b), linesV_app, linesV_over e hk]
          simp
        · have := hd.came h4
          rw [this, hca]
          rw [List.flatten_cons, show s.came ++ (b ++ l.flatten) = (s.came ++ b) ++ l.flatten from (List.append_assoc _ _ _).symm, crR_app (s.came ++ b), linesV_app]
          simp
    unfold Sv.feed
    dsimp only
    refine ⟨?_, by rw [i2, key.2], i3⟩
    rw [List.append_assoc, i1, key.1]
end Go.Proofs.YtapenolbbofjkaaGreatDoor
