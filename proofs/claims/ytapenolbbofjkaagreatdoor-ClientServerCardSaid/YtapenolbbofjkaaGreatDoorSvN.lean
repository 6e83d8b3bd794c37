/- server, plainly: behind ten errors, or a farewell, it is over; each reply is one that may be. No program. -/
import Derived.Test.YtapenolbbofjkaaGreatDoorSvP
import Derived.Test.YtapenolbbofjkaaGreatDoorRpP
set_option linter.unusedSimpArgs false
set_option linter.unusedVariables false
set_option linter.unnecessarySimpa false
namespace Go.Proofs.YtapenolbbofjkaaGreatDoor

def hostS : Bs := [109, 120, 46, 97, 46, 101, 120, 97, 109, 112, 108, 101]
def domS : Bs := [97, 46, 101, 120, 97, 109, 112, 108, 101]
def neverS : Bs := [110, 101, 118, 101, 114, 46, 111, 114, 103]
def annS : Bs := [97, 110, 110]
def rulesS : List Rl := [(domS, 1, 0), ([42], 2, 0), (neverS, 3, 0)]
def boxesS : List Mb := [(annS, domS)]
/-- The config of the law's own sessions. -/
def cfS : Cf := ⟨hostS, 100, rulesS, boxesS⟩
/-- What is said in few words. -/
def fitsE (l : List Bs) : Bool := decide (l.length ≤ 10) && l.all fun s => decide (s.length ≤ 1000)
def judge (j : Nat × Bool) (x : Ev) : Option (Nat × Bool) :=
  if j.2 = true then none
  else if x.kind = 2 then some (j.1, true)
  else if x.kind ≠ 0 then some j
  else if (rpLines x.code x.lines).2 ≠ 0 ∨ fitsE x.lines = false then none
  else if 10 ≤ (if 500 ≤ x.code then j.1 + 1 else j.1) ∨ (x.code = 421 ∧ (if 500 ≤ x.code then j.1 + 1 else j.1) ≠ 9) then none
  else some (if 500 ≤ x.code then j.1 + 1 else j.1, false)
def judgeL : Nat × Bool → List Ev → Option (Nat × Bool)
  | j, [] => some j
  | j, x :: l => (judge j x).bind fun j2 => judgeL j2 l
theorem judgeL_app : ∀ (a b : List Ev) (j : Nat × Bool), judgeL j (a ++ b) = (judgeL j a).bind fun j2 => judgeL j2 b
  | [], _, _ => rfl
  | x :: a, b, j => by
    rw [List.cons_append, judgeL, judgeL]
    cases judge j x with
    | none => rfl
    | some j2 => exact judgeL_app a b j2
/-- A reply that may be, in a session that isn't over. -/
theorem judge_reply {n : Nat} {code : Int} {l : List Bs} (h : (rpLines code l).2 = 0 ∧ fitsE l = true) (hn : (if 500 ≤ code then n + 1 else n) ≤ 9) (h4 : code = 421 → n = 9) : judge (n, false) (evSay code l) = some (if 500 ≤ code then n + 1 else n, false) := by
  unfold judge evSay
  dsimp only
  rw [if_neg (by decide), if_neg (by decide), if_neg (by decide), if_neg (by rw [h.1, h.2]; decide), if_neg ?_]
  rintro (h1 | ⟨h1, h2⟩)
  · omega
  · have := h4 h1
    subst h1
    rw [if_neg (by decide)] at h2
    exact h2 this
theorem judge_over (n : Nat) : judge (n, false) evOver = some (n, true) := by
  unfold judge evOver
  rw [if_neg (show ¬ (n, false).2 = true from fun h => by cases h), if_pos rfl]
def codesS : List Int := [220, 221, 250, 252, 354, 421, 452, 500, 501, 503, 550, 552, 554]
theorem words_may : ∀ c ∈ codesS, (rpLines c [svWords hostS c]).2 = 0 ∧ fitsE [svWords hostS c] = true := by decide +kernel
/-- What a session is that isn't over, or is. -/
structure EndK (k : Core) (j : Nat × Bool) : Prop where
  c : k.c = cfS
  phase : k.phase ≤ 3
  go : j.2 = false → k.phase ≠ 3 ∧ k.errs ≤ 9 ∧ j.1 = k.errs
  over : j.2 = true → k.phase = 3
theorem end_say {s : Sv} (hq : s.queue = []) (hk : EndK s.core (s.errs, false)) (code : Int) (hc : code ∈ codesS) (h4 : code ≠ 421) : ∃ j, judgeL (s.errs, false) (s.say code).queue = some j ∧ EndK (s.say code).core j := by
  obtain ⟨k1, k2, k3, _⟩ := hk
  obtain ⟨k3, k4, _⟩ := k3 rfl
  have hh : s.c.host = hostS := by rw [show s.c = cfS from k1]; rfl
  have k2' : s.phase ≤ 3 := k2
  have k3' : s.phase ≠ 3 := k3
  have k4' : s.errs ≤ 9 := k4
  have e1 : s.say code = if 10 ≤ (if 500 ≤ code then s.errs + 1 else s.errs) ∨ code = 221 then Sv.finis { s with errs := if 500 ≤ code then s.errs + 1 else s.errs } (if code = 221 then 221 else 421) else Sv.put { s with errs := if 500 ≤ code then s.errs + 1 else s.errs } (evSay code [svWords s.c.host code]) := rfl
  have eq : ∀ (n : Nat) (c : Int), (Sv.finis { s with errs := n } c).queue = [evSay c [svWords hostS c], evOver] := fun n c => by
    show (s.queue ++ [evSay c [svWords s.c.host c]]) ++ [evOver] = _
    rw [hq, hh]
    rfl
  have ep : ∀ (n : Nat), (Sv.put { s with errs := n } (evSay code [svWords s.c.host code])).queue = [evSay code [svWords hostS code]] := fun n => by
    show s.queue ++ [_] = _
    rw [hq, hh]
    rfl
  rw [e1]
  by_cases h2 : code = 221
  · subst h2
    rw [if_pos (.inr rfl), if_pos rfl, eq]
    refine ⟨(s.errs, true), ?_, ⟨k1, Nat.le_refl _, fun h => by simp at h, fun _ => rfl⟩⟩
    rw [judgeL, judge_reply (words_may 221 (by decide)) (by rw [if_neg (by decide)]; exact k4') (fun h => by simp at h)]
    show (judge (_, false) evOver).bind _ = _
    rw [if_neg (by decide), judge_over]
    rfl
  · by_cases h10 : 10 ≤ (if 500 ≤ code then s.errs + 1 else s.errs)
    · rw [if_pos (.inl h10), if_neg h2, eq]
      have h9 : s.errs = 9 := by split at h10 <;> omega
      refine ⟨(s.errs, true), ?_, ⟨k1, Nat.le_refl _, fun h => by simp at h, fun _ => rfl⟩⟩
      rw [judgeL, judge_reply (words_may 421 (by decide)) (by rw [if_neg (by decide)]; exact k4') (fun _ => h9)]
      show (judge (_, false) evOver).bind _ = _
      rw [if_neg (by decide), judge_over]
      rfl
    · rw [if_neg (by rintro (h | h); exact h10 h; exact h2 h), ep]
      have h9 : (if 500 ≤ code then s.errs + 1 else s.errs) ≤ 9 := by omega
      refine ⟨(if 500 ≤ code then s.errs + 1 else s.errs, false), ?_, ⟨k1, k2, fun _ => ⟨k3, h9, rfl⟩, fun h => by simp at h⟩⟩
      rw [judgeL, judge_reply (words_may code hc) h9 (fun h => absurd h h4)]
      rfl
theorem end_did {k : Core} {x : Int × Sv} (h1 : x.2.queue = []) (h2 : x.2.errs = k.errs) (h3 : x.2.c = k.c) (h4 : x.2.phase ≠ 3 ∧ x.2.phase ≤ 3) (hk : EndK k (k.errs, false)) (hc : x.1 ∈ codesS) (h5 : x.1 ≠ 421) : ∃ j, judgeL (k.errs, false) (Sv.did x).queue = some j ∧ EndK (Sv.did x).core j := by
  rw [← h2]
  exact end_say h1 ⟨by show x.2.c = cfS; rw [h3]; exact hk.c, h4.2, fun _ => ⟨h4.1, by show x.2.errs ≤ 9; rw [h2]; exact (hk.go rfl).2.1, rfl⟩, fun h => by simp at h⟩ x.1 hc h5
theorem end_take {k : Core} (hk : EndK k (k.errs, false)) (hp : k.phase < 2) (l : Bs) : ∃ j, judgeL (k.errs, false) (act1 k l).2 = some j ∧ EndK (act1 k l).1 j := by
  have hph : (k.sv [] []).phase ≠ 3 ∧ (k.sv [] []).phase ≤ 3 := ⟨by show k.phase ≠ 3; omega, by show k.phase ≤ 3; omega⟩
  have say : ∀ c ∈ codesS, c ≠ 421 → ∃ j, judgeL (k.errs, false) ((k.sv [] []).say c).queue = some j ∧ EndK ((k.sv [] []).say c).core j := fun c hc h4 => end_say (s := k.sv [] []) rfl hk c hc h4
  unfold act1
  dsimp only
  unfold Sv.take
  split
  · split
    · exact ⟨(k.errs, false), rfl, ⟨hk.c, hk.phase, hk.go, hk.over⟩⟩
    · unfold Sv.line
      split
      · unfold Sv.ended
        have hk0 : EndK (({ (k.sv [] []).forget with phase := 0 } : Sv)).core (k.errs, false) := ⟨hk.c, Nat.zero_le _, fun _ => ⟨by show (0 : Nat) ≠ 3; decide, (hk.go rfl).2.1, rfl⟩, fun h => by simp at h⟩
        split
        · exact end_say (s := ({ (k.sv [] []).forget with phase := 0 } : Sv)) rfl hk0 500 (by decide) (by decide)
        split
        · exact end_say (s := ({ (k.sv [] []).forget with phase := 0 } : Sv)) rfl hk0 552 (by decide) (by decide)
        · refine ⟨(k.errs, false), ?_, ⟨hk.c, by show (2 : Nat) ≤ 3; decide, fun _ => ⟨by show (2 : Nat) ≠ 3; decide, (hk.go rfl).2.1, rfl⟩, fun h => by simp at h⟩⟩
          rfl
      · exact ⟨(k.errs, false), rfl, ⟨hk.c, hk.phase, hk.go, hk.over⟩⟩
  · split
    · exact say 500 (by decide) (by decide)
    · unfold Sv.command
      split
      · exact say 500 (by decide) (by decide)
      split
      · exact say 501 (by decide) (by decide)
      unfold Sv.obey
      split
      · have hm : ∀ b : Bool, (rpLines 250 (if b = true then [hostS] else [hostS, sizeT ++ Go.Lib.decDigits 100, eightT, pipeT])).2 = 0 ∧ fitsE (if b = true then [hostS] else [hostS, sizeT ++ Go.Lib.decDigits 100, eightT, pipeT]) = true := by decide +kernel
        refine ⟨(k.errs, false), ?_, ⟨hk.c, hk.phase, hk.go, hk.over⟩⟩
        show (judge (k.errs, false) (evSay 250 (if _ then [k.c.host] else [k.c.host, sizeT ++ Go.Lib.decDigits k.c.most, eightT, pipeT]))).bind _ = _
        rw [hk.c]
        rw [judge_reply (by
          by_cases hv : (cmParse l).1.verb = 1
          · rw [if_pos hv]; exact hm true
          · rw [if_neg hv]; exact hm false) (by rw [if_neg (by decide)]; exact (hk.go rfl).2.1) (fun h => by simp at h)]
        rfl
      split
      · unfold Sv.from
        split
        · exact end_did rfl rfl rfl hph hk (show (503 : Int) ∈ codesS by decide) (show (503 : Int) ≠ 421 by decide)
        split
        · exact end_did rfl rfl rfl hph hk (show (552 : Int) ∈ codesS by decide) (show (552 : Int) ≠ 421 by decide)
        · exact end_did rfl rfl rfl hph hk (show (250 : Int) ∈ codesS by decide) (show (250 : Int) ≠ 421 by decide)
      split
      · unfold Sv.rcpt
        split
        · exact end_did rfl rfl rfl hph hk (show (503 : Int) ∈ codesS by decide) (show (503 : Int) ≠ 421 by decide)
        split
        · exact end_did rfl rfl rfl hph hk (show (452 : Int) ∈ codesS by decide) (show (452 : Int) ≠ 421 by decide)
        split
        · exact end_did rfl rfl rfl hph hk (show (550 : Int) ∈ codesS by decide) (show (550 : Int) ≠ 421 by decide)
        split
        · exact end_did rfl rfl rfl hph hk (show (250 : Int) ∈ codesS by decide) (show (250 : Int) ≠ 421 by decide)
        · exact end_did rfl rfl rfl hph hk (show (250 : Int) ∈ codesS by decide) (show (250 : Int) ≠ 421 by decide)
      split
      · unfold Sv.data
        split
        · exact end_did rfl rfl rfl hph hk (show (503 : Int) ∈ codesS by decide) (show (503 : Int) ≠ 421 by decide)
        · exact end_did rfl rfl rfl ⟨by show (1 : Nat) ≠ 3; decide, by show (1 : Nat) ≤ 3; decide⟩ hk (show (354 : Int) ∈ codesS by decide) (show (354 : Int) ≠ 421 by decide)
      split
      · exact say 221 (by decide) (by decide)
      split
      · exact say 252 (by decide) (by decide)
      split
      · exact end_say (s := (k.sv [] []).forget) rfl ⟨hk.c, hk.phase, hk.go, hk.over⟩ 250 (by decide) (by decide)
      · exact say 250 (by decide) (by decide)
theorem end_settle {k : Core} {j : Nat × Bool} (hk : EndK k j) : ∃ j2, judgeL j (settle 0 k).2 = some j2 ∧ EndK (settle 0 k).1 j2 ∧ (settle 0 k).1.phase ≠ 2 := by
  by_cases h : k.phase = 2
  · obtain ⟨n, o⟩ := j
    have ho : o = false := by
      cases o with
      | false => rfl
      | true => have h3 := hk.over rfl; rw [h] at h3; cases h3
    subst ho
    obtain ⟨g1, g2, g3⟩ := hk.go rfl
    dsimp only at g3
    subst g3
    have e : (k.sv [] []).verdict 0 = ({ (k.sv [] []).forget with phase := 0 } : Sv).say 250 := by
      unfold Sv.verdict
      rw [if_pos (show (k.sv [] []).phase = 2 from h)]
      rfl
    obtain ⟨j2, h1, h2⟩ := end_say (s := ({ (k.sv [] []).forget with phase := 0 } : Sv)) rfl ⟨hk.c, Nat.zero_le _, fun _ => ⟨by show (0 : Nat) ≠ 3; decide, g2, rfl⟩, fun h => by simp at h⟩ 250 (by decide) (by decide)
    refine ⟨j2, ?_, ?_, (settle_bound 0 k h).2.1⟩
    · unfold settle
      rw [e]
      exact h1
    · unfold settle
      rw [e]
      exact h2
  · rw [settle_idle 0 h]
    exact ⟨j, rfl, hk, h⟩
theorem end_lines : ∀ (ls : List Bs) {k : Core} {j : Nat × Bool}, EndK k j → k.phase ≠ 2 → ∃ j2, judgeL j (linesV 0 k ls).2 = some j2 ∧ EndK (linesV 0 k ls).1 j2
  | [], _, j, hk, _ => ⟨j, rfl, hk⟩
  | l :: ls, k, j, hk, hp => by
    by_cases h3 : k.phase = 3
    · rw [linesV_over 0 h3]
      exact ⟨j, rfl, hk⟩
    · obtain ⟨n, o⟩ := j
      have ho : o = false := by
        cases o with
        | false => rfl
        | true => exact absurd (hk.over rfl) h3
      subst ho
      obtain ⟨g1, g2, g3⟩ := hk.go rfl
      dsimp only at g3
      subst g3
      have hp2 : k.phase < 2 := by have := hk.phase; omega
      obtain ⟨j2, a1, a2⟩ := end_take hk hp2 l
      obtain ⟨j3, b1, b2, b3⟩ := end_settle a2
      obtain ⟨j4, c1, c2⟩ := end_lines ls (k := (lineV 0 k l).1) (j := j3) b2 b3
      rw [linesV, if_neg h3]
      refine ⟨j4, ?_, c2⟩
      show judgeL _ ((lineV 0 k l).2 ++ _) = _
      rw [judgeL_app]
      show (judgeL _ ((act1 k l).2 ++ (settle 0 (act1 k l).1).2)).bind _ = _
      rw [judgeL_app, a1]
      show (judgeL j2 _).bind _ = _
      rw [b1]
      exact c1
/-- Where texts come: what is judged, and the session behind it. -/
structure EndS (s : Sv) (j : Nat × Bool) : Prop where
  k : EndK s.core j
  queue : s.queue = [] ∨ (s.queue = [evSay 220 [svWords hostS 220]] ∧ j.2 = false)
  idle : s.phase ≠ 2
theorem crR_rest (s : Bs) : (crR (crR s).2).1 = [] := by
  obtain ⟨h1, h2⟩ := crR_back s.length s (Nat.le_refl _)
  have h3 := crR_join (crR s).1 (crR s).2 h2
  rw [h1] at h3
  have h4 := congrArg (fun q => q.1.length) h3
  simp only [List.length_append] at h4
  exact List.eq_nil_of_length_eq_zero (by omega)
theorem lines_more {a : Bs} (h : (crR a).1 = []) (b : Bs) : 2 * (crR (a ++ b)).1.length ≤ b.length + 1 := by
  cases hn : lnNext (a ++ b) with
  | none => rw [lnNext_none hn]; simp
  | some q =>
    obtain ⟨x, r⟩ := q
    obtain ⟨h1, h2, h3⟩ := lnNext_some hn
    have hl := lnNext_len hn
    have hr := crR_len r.length r (Nat.le_refl _)
    rw [h3]
    have hx : a.length < x.length + 2 := by
      apply Nat.lt_of_not_le
      intro hle
      have e : a = x ++ 13 :: 10 :: r.take (a.length - x.length - 2) := by
        have e1 := congrArg (List.take a.length) h1
        rw [List.take_left] at e1
        refine e1.trans ?_
        rw [List.take_append, List.take_of_length_le (by omega : x.length ≤ a.length)]
        congr 1
        obtain ⟨m, hm⟩ : ∃ m, a.length - x.length = m + 2 := ⟨a.length - x.length - 2, by omega⟩
        rw [hm, List.take_succ_cons, List.take_succ_cons]
        rfl
      rw [e, crR_line x _ h2] at h
      cases h
    rw [List.length_append] at hl
    simp only [List.length_cons]
    omega
theorem ends_step {s : Sv} {j : Nat × Bool} (h : EndS s j) (b : Bs) (hb : b.length ≤ 2000) (hr : s.phase ≠ 3 → (crR s.came).1 = []) :
    ∃ j2, judgeL j (Sv.drain 0 3000 (s.add b)).1 = some j2 ∧ EndS (Sv.drain 0 3000 (s.add b)).2 j2 ∧ ((Sv.drain 0 3000 (s.add b)).2.phase ≠ 3 → (crR (Sv.drain 0 3000 (s.add b)).2.came).1 = []) := by
  obtain ⟨a1, a2, a3⟩ := s.add_core b
  have hph : s.phase ≤ 3 := h.k.phase
  have hq1 : s.queue.length ≤ 1 := by rcases h.queue with h | h <;> simp [h]
  have hw : (s.add b).work ≤ 3000 := by
    unfold Sv.work
    rw [a2, a3]
    have h2 : weight s.phase ≤ 3 := by
      unfold weight
      repeat (first | (split; · omega) | omega)
    by_cases h3 : s.phase = 3
    · unfold load
      rw [if_pos h3]
      omega
    · have hca : (s.add b).came = s.came ++ b := by unfold Sv.add; rw [if_neg h3]
      rw [load_go h3, hca]
      have := lines_more (hr h3) b
      omega
  have hd := drain_spec 0 3000 (s.add b).came.length (s.add b) (Nat.le_refl _) (by rw [a3]; exact hph) hw
  obtain ⟨d1, d2, d3, d4, d5⟩ := hd
  generalize Sv.drain 0 3000 (s.add b) = x at *
  rw [a1, settle_idle 0 (show s.core.phase ≠ 2 from h.idle)] at d1 d2
  rw [a2, List.nil_append] at d1
  have hq : judgeL j s.queue = some j := by
    rcases h.queue with hq | ⟨hq, hj⟩
    · rw [hq]; rfl
    · obtain ⟨n, o⟩ := j
      dsimp only at hj
      subst hj
      obtain ⟨_, g2, g3⟩ := h.k.go rfl
      dsimp only at g3
      rw [hq, judgeL, judge_reply (words_may 220 (by decide)) (by rw [if_neg (by decide)]; omega) (fun h => by simp at h)]
      rfl
  obtain ⟨j2, e1, e2⟩ := end_lines (crR (s.add b).came).1 h.k h.idle
  refine ⟨j2, ?_, ⟨by rw [d2]; exact e2, .inl d3, d5⟩, fun h3 => ?_⟩
  · rw [d1, judgeL_app, hq]
    exact e1
  · rw [d4 h3]
    exact crR_rest _
end Go.Proofs.YtapenolbbofjkaaGreatDoor
