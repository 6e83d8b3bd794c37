/- ServerOffers, plainly: what an offer holds. No program. -/
import Derived.Test.YtapenolbbofjkaaGreatDoorSvS
set_option linter.unusedSimpArgs false
set_option linter.unusedVariables false
set_option linter.unnecessarySimpa false
namespace Go.Proofs.YtapenolbbofjkaaGreatDoor

/-- What an offer is, under a config. -/
structure OfOk (c : Cf) (x : Ev) : Prop where
  body : x.body.length ≤ c.most
  one : 1 ≤ x.rcs.length
  few : x.rcs.length ≤ 10
  taken : ∀ b ∈ x.rcs, c.taken b = true
  once : x.rcs.Nodup
structure OfS (s : Sv) : Prop where
  taken : ∀ b ∈ s.t.rcs, s.c.taken b = true
  once : s.t.rcs.Nodup
  some : s.phase = 1 → s.t.rcs ≠ []
  queue : ∀ x ∈ s.queue, x.kind = 1 → s.phase = 2 ∧ OfOk s.c x
variable {s : Sv}
theorem of_say (h : OfS s) (hq : s.queue = []) (c : Int) : OfS (s.say c) := by
  have e1 : s.say c = if 10 ≤ (if 500 ≤ c then s.errs + 1 else s.errs) ∨ c = 221 then Sv.finis { s with errs := if 500 ≤ c then s.errs + 1 else s.errs } (if c = 221 then 221 else 421) else Sv.put { s with errs := if 500 ≤ c then s.errs + 1 else s.errs } (evSay c [svWords s.c.host c]) := rfl
  rw [e1]
  generalize (if 500 ≤ c then s.errs + 1 else s.errs) = n at *
  by_cases h1 : 10 ≤ n ∨ c = 221
  · rw [if_pos h1]
    refine ⟨h.taken, h.once, fun h2 => absurd (show (3 : Nat) = 1 from h2) (by decide), fun x hx hk => ?_⟩
    have hx2 : x ∈ (s.queue ++ [evSay (if c = 221 then 221 else 421) [svWords s.c.host (if c = 221 then 221 else 421)]]) ++ [evOver] := hx
    rw [hq] at hx2
    simp only [List.nil_append, List.cons_append, List.mem_cons, List.not_mem_nil, or_false] at hx2
    rcases hx2 with rfl | rfl
    · exact absurd (show (0 : Int) = 1 from hk) (by decide)
    · exact absurd (show (2 : Int) = 1 from hk) (by decide)
  · rw [if_neg h1]
    refine ⟨h.taken, h.once, h.some, fun x hx hk => ?_⟩
    have hx2 : x ∈ s.queue ++ [evSay c [svWords s.c.host c]] := hx
    rw [hq] at hx2
    simp only [List.nil_append, List.mem_cons, List.not_mem_nil, or_false] at hx2
    subst hx2
    exact absurd (show (0 : Int) = 1 from hk) (by decide)
theorem of_none {q : List Ev} (hq : q = []) {P : Ev → Prop} : ∀ x ∈ q, x.kind = 1 → P x := fun x hx => by rw [hq] at hx; cases hx
theorem of_forget (hq : s.queue = []) (hp : s.phase ≠ 1) : OfS s.forget :=
  ⟨fun b hb => (by cases hb), List.nodup_nil, fun h => absurd h hp, of_none hq⟩
theorem of_zero (hq : s.queue = []) : OfS ({ s.forget with phase := 0 } : Sv) :=
  ⟨fun b hb => (by cases hb), List.nodup_nil, fun h => absurd (show (0 : Nat) = 1 from h) (by decide), of_none hq⟩
theorem of_did {x : Int × Sv} (h : OfS x.2) (hq : x.2.queue = []) : OfS (Sv.did x) := of_say h hq x.1
theorem of_command (h : OfS s) (hq : s.queue = []) (hp : s.phase = 0) (l : Bs) : OfS (s.command l) := by
  have hp1 : s.phase ≠ 1 := by omega
  unfold Sv.command
  split
  · exact of_say h hq _
  split
  · exact of_say h hq _
  unfold Sv.obey
  split
  · unfold Sv.meet
    refine ⟨fun b hb => (by cases hb), List.nodup_nil, fun h2 => absurd h2 hp1, fun x hx hk => ?_⟩
    generalize (if (cmParse l).1.verb = 1 then [s.c.host] else [s.c.host, sizeT ++ Go.Lib.decDigits s.c.most, eightT, pipeT]) = ls at hx
    have hx2 : x ∈ s.queue ++ [evSay 250 ls] := hx
    rw [hq] at hx2
    simp only [List.nil_append, List.mem_cons, List.not_mem_nil, or_false] at hx2
    subst hx2
    exact absurd (show (0 : Int) = 1 from hk) (by decide)
  split
  · unfold Sv.from
    split
    · exact of_did h hq
    split
    · exact of_did h hq
    · exact of_did (x := (250, _)) ⟨fun b hb => (by cases hb), List.nodup_nil, fun h2 => absurd h2 hp1, of_none hq⟩ hq
  split
  · unfold Sv.rcpt
    split
    · exact of_did h hq
    split
    · exact of_did h hq
    split
    · exact of_did h hq
    split
    · rename_i h1 h2 h3
      refine of_did (x := (250, _)) ⟨?_, ?_, fun h2 => absurd h2 hp1, of_none hq⟩ hq
      · intro b hb
        have hb2 : b ∈ s.t.rcs ++ [(cmParse l).1.box] := hb
        rcases List.mem_append.1 hb2 with hb2 | hb2
        · exact h.taken b hb2
        · rw [List.mem_singleton.1 hb2]
          simpa using h2
      · show (s.t.rcs ++ [(cmParse l).1.box]).Nodup
        rw [List.nodup_append]
        refine ⟨h.once, by simp, fun a ha b hb => ?_⟩
        rw [List.mem_singleton.1 hb]
        intro e
        rw [e] at ha
        exact h3 ha
    · exact of_did h hq
  split
  · unfold Sv.data
    split
    · exact of_did h hq
    · rename_i h1
      exact of_did (x := (354, _)) ⟨h.taken, h.once, fun _ => fun h2 => h1 (.inr h2), of_none hq⟩ hq
  split
  · exact of_say h hq _
  split
  · exact of_say h hq _
  split
  · exact of_say (of_forget hq hp1) hq _
  · exact of_say h hq _
theorem of_take (h : OfS s) (hs : s.Sane) (hq : s.queue = []) (hp : s.phase < 2) (l : Bs) : OfS (s.take l) := by
  unfold Sv.take
  split
  · rename_i hp1
    split
    · exact ⟨h.taken, h.once, h.some, of_none hq⟩
    · unfold Sv.line
      split
      · unfold Sv.ended
        split
        · exact of_say (of_zero hq) hq _
        split
        · exact of_say (of_zero hq) hq _
        · rename_i h1 h2
          refine ⟨h.taken, h.once, fun h3 => absurd (show (2 : Nat) = 1 from h3) (by decide), fun x hx hk => ⟨rfl, ?_⟩⟩
          have hx2 : x ∈ s.queue ++ [⟨1, 0, [], s.greet, s.t.frm, s.t.rcs, lnJoin s.t.lines⟩] := hx
          rw [hq] at hx2
          simp only [List.nil_append, List.mem_cons, List.not_mem_nil, or_false] at hx2
          subst hx2
          have h4 := hs.lines
          refine ⟨?_, ?_, hs.rcs, h.taken, h.once⟩
          · show (lnJoin s.t.lines).length ≤ s.c.most
            omega
          · show 1 ≤ s.t.rcs.length
            have := List.length_pos_iff.2 (h.some hp1)
            omega
      · exact ⟨h.taken, h.once, h.some, of_none hq⟩
  · split
    · exact of_say h hq _
    · exact of_command h hq (by omega) l
theorem of_verdict (h : OfS s) (hq : s.queue = []) (e : Int) : OfS (s.verdict e) := by
  unfold Sv.verdict
  split
  · exact of_say (of_zero hq) hq _
  · exact h
theorem of_add (h : OfS s) (b : Bs) : OfS (s.add b) := by
  unfold Sv.add
  split
  · exact h
  · exact ⟨h.taken, h.once, h.some, h.queue⟩
theorem of_run : ∀ (n : Nat) {s : Sv}, OfS s → s.Sane → OfS (Sv.run n s)
  | 0, _, h, _ => h
  | n + 1, s, h, hs => by
    unfold Sv.run
    split
    · rename_i hc
      cases hl : lnNext s.came with
      | none => exact h
      | some q =>
        have hs2 : ({ s with came := q.2 } : Sv).Sane := ⟨hs.c, hs.phase, hs.errs, hs.few, hs.queue, hs.rcs, hs.size, hs.lines⟩
        have h2 : OfS ({ s with came := q.2 } : Sv) := ⟨h.taken, h.once, h.some, h.queue⟩
        exact of_run n (of_take h2 hs2 hc.1 hc.2 q.1) (sane_take hs2 hc.1 hc.2 q.1)
    · exact h
theorem of_next (h : OfS s) (hs : s.Sane) : OfS s.next.2 ∧ ∀ x, s.next.1 = some x → x.kind = 1 → s.next.2.phase = 2 ∧ OfOk s.next.2.c x := by
  have h1 : OfS s.pull := of_run _ h hs
  unfold Sv.next
  split
  · exact ⟨h1, fun x hx => by cases hx⟩
  · rename_i x q hq
    refine ⟨⟨h1.taken, h1.once, h1.some, fun y hy hk => h1.queue y (by rw [hq]; exact List.mem_cons_of_mem _ hy) hk⟩, fun y hy hk => ?_⟩
    cases hy
    exact h1.queue x (by rw [hq]; simp) hk
/-- The config stays. -/
theorem say_cf (s : Sv) (c : Int) : (s.say c).c = s.c := by
  unfold Sv.say
  dsimp only
  generalize (if 500 ≤ c then s.errs + 1 else s.errs) = n
  split <;> rfl
theorem did_cf (x : Int × Sv) : (Sv.did x).c = x.2.c := say_cf _ _
theorem take_cf (s : Sv) (l : Bs) : (s.take l).c = s.c := by
  unfold Sv.take
  split
  · split
    · rfl
    · unfold Sv.line
      split
      · unfold Sv.ended
        split
        · exact say_cf _ _
        split
        · exact say_cf _ _
        · rfl
      · rfl
  · split
    · exact say_cf _ _
    · unfold Sv.command
      split
      · exact say_cf _ _
      split
      · exact say_cf _ _
      unfold Sv.obey
      split
      · rfl
      split
      · rw [did_cf]
        unfold Sv.from
        split
        · rfl
        split <;> rfl
      split
      · rw [did_cf]
        unfold Sv.rcpt
        split
        · rfl
        split
        · rfl
        split
        · rfl
        split <;> rfl
      split
      · rw [did_cf]
        unfold Sv.data
        split <;> rfl
      split
      · exact say_cf _ _
      split
      · exact say_cf _ _
      split
      · exact say_cf _ _
      · exact say_cf _ _
theorem verdict_cf (s : Sv) (e : Int) : (s.verdict e).c = s.c := by
  unfold Sv.verdict
  split
  · exact say_cf _ _
  · rfl
theorem add_cf (s : Sv) (b : Bs) : (s.add b).c = s.c := by
  unfold Sv.add
  split <;> rfl
theorem run_cf : ∀ (n : Nat) (s : Sv), (Sv.run n s).c = s.c
  | 0, _ => rfl
  | n + 1, s => by
    unfold Sv.run
    split
    · cases hl : lnNext s.came with
      | none => rfl
      | some q => exact (run_cf n _).trans (take_cf _ _)
    · rfl
theorem next_cf (s : Sv) : s.next.2.c = s.c := by
  have h : s.pull.c = s.c := run_cf _ s
  unfold Sv.next
  split
  · exact h
  · exact h
theorem of_new (c : Cf) : OfS (svNew c) :=
  of_say ⟨fun b hb => (by cases hb), List.nodup_nil, fun h => absurd (show (0 : Nat) = 1 from h) (by decide), fun x hx => by cases hx⟩ rfl 220
theorem new_cf (c : Cf) : (svNew c).c = c := say_cf _ _
end Go.Proofs.YtapenolbbofjkaaGreatDoor
