/- server, plainly: what holds of a session all along. No program but for how large things are. server: Next. Conditions: the lengths fit; what Go's variables hold. -/
import Derived.Test.YtapenolbbofjkaaGreatDoorSvL
import Derived.Test.YtapenolbbofjkaaGreatDoorSvP
import Derived.Deep.LoopGhost
/-! SvS -/
set_option linter.unusedSimpArgs false
set_option linter.unusedVariables false
set_option linter.unnecessarySimpa false
namespace Go.Proofs.YtapenolbbofjkaaGreatDoor

structure Cf.Fit (c : Cf) : Prop where
  host : c.host.length ≤ 1000
  most : c.most ≤ 15000
  rules : c.rules.length ≤ 1000
  each : ∀ r ∈ c.rules, r.Fit
  boxes : c.boxes.length ≤ 1000
structure Sv.Sane (s : Sv) : Prop where
  c : s.c.Fit
  phase : s.phase ≤ 3
  errs : s.errs ≤ 10
  few : s.phase ≠ 3 → s.errs ≤ 9
  queue : s.queue.length ≤ 2
  rcs : s.t.rcs.length ≤ 10
  size : s.t.size ≤ 15001
  lines : (lnJoin s.t.lines).length ≤ s.t.size
variable {s : Sv}
theorem Sv.Sane.good (h : s.Sane) : s.Good :=
  ⟨⟨h.c.host, h.c.most, by have := h.queue; omega, by have := h.errs; omega, h.c.rules, h.c.each, h.c.boxes⟩, by have := h.queue; omega, by have := h.errs; omega, h.rcs, h.size, h.lines⟩
theorem sane_say (h : s.Sane) (hq : s.queue = []) (hp : s.phase < 3) (c : Int) : (s.say c).Sane := by
  have he := h.few (by omega)
  have e1 : s.say c = if 10 ≤ (if 500 ≤ c then s.errs + 1 else s.errs) ∨ c = 221 then Sv.finis { s with errs := if 500 ≤ c then s.errs + 1 else s.errs } (if c = 221 then 221 else 421) else Sv.put { s with errs := if 500 ≤ c then s.errs + 1 else s.errs } (evSay c [svWords s.c.host c]) := rfl
  have hn : (if 500 ≤ c then s.errs + 1 else s.errs) ≤ 10 := by split <;> omega
  rw [e1]
  generalize (if 500 ≤ c then s.errs + 1 else s.errs) = n at *
  by_cases h1 : 10 ≤ n ∨ c = 221
  · rw [if_pos h1]
    exact ⟨h.c, Nat.le_refl _, hn, fun h3 => absurd rfl h3, by show ((s.queue ++ [_]) ++ [_]).length ≤ 2; rw [hq]; simp, h.rcs, h.size, h.lines⟩
  · rw [if_neg h1]
    exact ⟨h.c, h.phase, hn, fun _ => by show n ≤ 9; omega, by show (s.queue ++ [_]).length ≤ 2; rw [hq]; simp, h.rcs, h.size, h.lines⟩
theorem sane_forget (h : s.Sane) : s.forget.Sane := ⟨h.c, h.phase, h.errs, h.few, h.queue, Nat.zero_le _, Nat.zero_le _, Nat.le_refl _⟩
theorem sane_phase (h : s.Sane) (hp : s.phase < 3) {n : Nat} (hn : n < 3) : ({ s with phase := n } : Sv).Sane := ⟨h.c, by show n ≤ 3; omega, h.errs, fun _ => h.few (by omega), h.queue, h.rcs, h.size, h.lines⟩
theorem sane_did {x : Int × Sv} (h : x.2.Sane) (hq : x.2.queue = []) (hp : x.2.phase < 3) : (Sv.did x).Sane := sane_say h hq hp x.1
theorem sane_command (h : s.Sane) (hq : s.queue = []) (hp : s.phase < 2) (l : Bs) : (s.command l).Sane := by
  have hp3 : s.phase < 3 := by omega
  unfold Sv.command
  split
  · exact sane_say h hq hp3 _
  split
  · exact sane_say h hq hp3 _
  unfold Sv.obey
  split
  · exact ⟨h.c, h.phase, h.errs, h.few, by show (s.queue ++ [_]).length ≤ 2; rw [hq]; simp, Nat.zero_le _, Nat.zero_le _, Nat.le_refl _⟩
  split
  · unfold Sv.from
    split
    · exact sane_did h hq hp3
    split
    · exact sane_did h hq hp3
    · exact sane_did (x := (250, _)) ⟨h.c, h.phase, h.errs, h.few, h.queue, Nat.zero_le _, Nat.zero_le _, Nat.le_refl _⟩ hq hp3
  split
  · unfold Sv.rcpt
    split
    · exact sane_did h hq hp3
    split
    · exact sane_did h hq hp3
    split
    · exact sane_did h hq hp3
    split
    · rename_i h1 h2 h3
      refine sane_did (x := (250, _)) ⟨h.c, h.phase, h.errs, h.few, h.queue, ?_, h.size, h.lines⟩ hq hp3
      show (s.t.rcs ++ [_]).length ≤ 10
      have hlt : ¬ 10 ≤ s.t.rcs.length := fun h4 => h1 ⟨h4, h3⟩
      simp only [List.length_append, List.length_cons, List.length_nil]
      omega
    · exact sane_did h hq hp3
  split
  · unfold Sv.data
    split
    · exact sane_did h hq hp3
    · exact sane_did (x := (354, _)) (sane_phase h hp3 (by decide)) hq (show (1 : Nat) < 3 by decide)
  split
  · exact sane_say h hq hp3 _
  split
  · exact sane_say h hq hp3 _
  split
  · exact sane_say (sane_forget h) hq hp3 _
  · exact sane_say h hq hp3 _
theorem lnJoin_more (l : List Bs) (u : Bs) : (lnJoin (l ++ [u])).length = (lnJoin l).length + u.length + 2 := by simp [lnJoin]; omega
theorem sane_take (h : s.Sane) (hq : s.queue = []) (hp : s.phase < 2) (l : Bs) : (s.take l).Sane := by
  have hp3 : s.phase < 3 := by omega
  unfold Sv.take
  split
  · split
    · exact ⟨h.c, h.phase, h.errs, h.few, h.queue, h.rcs, h.size, h.lines⟩
    · unfold Sv.line
      split
      · unfold Sv.ended
        have h0 : ({ s.forget with phase := 0 } : Sv).Sane := sane_phase (sane_forget h) hp3 (by decide)
        split
        · exact sane_say h0 hq (show (0 : Nat) < 3 by decide) _
        split
        · exact sane_say h0 hq (show (0 : Nat) < 3 by decide) _
        · have h2 : ({ s with phase := 2 } : Sv).Sane := sane_phase h hp3 (by decide)
          exact ⟨h2.c, h2.phase, h2.errs, h2.few, by show (s.queue ++ [_]).length ≤ 2; rw [hq]; simp, h2.rcs, h2.size, h2.lines⟩
      · obtain ⟨n, hn⟩ : ∃ n, n = min (s.t.size + (undot l).length + 2) 15001 := ⟨_, rfl⟩
        have hs := h.size
        have hl := h.lines
        have hm := h.c.most
        have hnn : n ≤ 15001 := by omega
        show Sv.Sane { s with t := { s.t with size := min (s.t.size + (undot l).length + 2) 15001, lines := if min (s.t.size + (undot l).length + 2) 15001 ≤ s.c.most then s.t.lines ++ [undot l] else s.t.lines } }
        rw [← hn]
        refine ⟨h.c, h.phase, h.errs, h.few, h.queue, h.rcs, hnn, ?_⟩
        show (lnJoin (if n ≤ s.c.most then s.t.lines ++ [undot l] else s.t.lines)).length ≤ n
        split
        · rw [lnJoin_more]
          omega
        · omega
  · split
    · exact sane_say h hq hp3 _
    · exact sane_command h hq hp l
theorem sane_verdict (h : s.Sane) (hq : s.queue = []) (e : Int) : (s.verdict e).Sane := by
  unfold Sv.verdict
  split
  · rename_i h2
    exact sane_say (sane_phase (sane_forget h) (show s.phase < 3 by omega) (by decide)) hq (show (0 : Nat) < 3 by decide) _
  · exact h
theorem sane_add (h : s.Sane) (b : Bs) : (s.add b).Sane := by
  unfold Sv.add
  split
  · exact h
  · exact ⟨h.c, h.phase, h.errs, h.few, h.queue, h.rcs, h.size, h.lines⟩
theorem sane_run : ∀ (n : Nat) {s : Sv}, s.Sane → (Sv.run n s).Sane
  | 0, _, h => h
  | n + 1, s, h => by
    unfold Sv.run
    split
    · rename_i hc
      cases hl : lnNext s.came with
      | none => exact h
      | some q => exact sane_run n (sane_take (s := { s with came := q.2 }) ⟨h.c, h.phase, h.errs, h.few, h.queue, h.rcs, h.size, h.lines⟩ hc.1 hc.2 q.1)
    · exact h
theorem sane_next (h : s.Sane) : s.next.2.Sane := by
  have h1 : s.pull.Sane := sane_run _ h
  unfold Sv.next
  split
  · exact h1
  · rename_i x q hq
    exact ⟨h1.c, h1.phase, h1.errs, h1.few, by have := h1.queue; rw [hq] at this; show q.length ≤ 2; simp at this; omega, h1.rcs, h1.size, h1.lines⟩
theorem sane_new {c : Cf} (h : c.Fit) : (svNew c).Sane :=
  sane_say ⟨h, Nat.zero_le _, Nat.zero_le _, fun _ => Nat.zero_le _, Nat.zero_le _, Nat.zero_le _, Nat.zero_le _, Nat.le_refl _⟩ rfl (show (0 : Nat) < 3 by decide) 220
end Go.Proofs.YtapenolbbofjkaaGreatDoor

/-! SvV -/
namespace Go.Proofs.YtapenolbbofjkaaGreatDoor
open Go.RowKit Go.Maps

abbrev zeroEv : Array Value := #[.int .i64 0, .int .i64 0, .slice none 0 0, .string ⟨#[]⟩, .string ⟨#[]⟩, .string ⟨#[]⟩, .slice none 0 0, .string ⟨#[]⟩]
def NextTo (w0 : World) (L : List Res) (p : Nat) (K : List Rom) (s : Sv) (e : Ending) (w2 : World) : Prop :=
  ∃ K2, (∀ x ∈ K, x ∈ K2) ∧ SvAt w0 L p s.next.2 K2 w2 ∧ match s.next.1 with
    | none => e = .returned (.tuple #[.agg zeroEv, .bool false])
    | some x => ∃ vl vr, QEv.in K2 (x, vl, vr) ∧ e = .returned (.tuple #[.agg (QEv.vals (x, vl, vr)).toArray, .bool true])
section
variable {w0 w w2 : World} {L : List Res} {p : Nat} {s : Sv} {K : List Rom} {v : Value} {r : Res}
theorem nxt_told {s x r : Bs} (h : lnNext s = some (x, r)) : nxtR s = ((lnTold x).1, (lnTold x).2, true) := by
  unfold nxtR lnTold
  rw [h]
  dsimp only
  split <;> rfl
theorem SvAt.queued (A : SvAt w0 L p s K w) : ∃ vr vb vt vl rb va vc, (∀ o, w.cell? ⟨p, o, none⟩ = (svCells s ⟨vr, vb, vt, vl, .slice va s.queue.length vc, rb, []⟩)[o]?) := by
  obtain ⟨X, hX, S⟩ := A
  have hl : X.qs.length = s.queue.length := by rw [← hX.queue, List.length_map]
  rcases ((Sp.pick [_, _, _, _, _] [4] (by decide) (S))).rowForO with ⟨h1, h2⟩ | ⟨g, off, cap, h1, _⟩
  · refine ⟨X.vr, X.vb, X.vt, X.vl, X.rb, none, 0, fun o => ?_⟩
    rw [S.cell o, ← hl, h2, ← h1]
  · refine ⟨X.vr, X.vb, X.vt, X.vl, X.rb, some ⟨g, off, none⟩, cap, fun o => ?_⟩
    rw [S.cell o, ← hl, ← h1]
theorem SvAt.setBox {b : Nat} {c : Array Value} {T : TypeId} (A : SvAt w0 (boxR b c T :: L) p s K w) (o : Nat) (u : Value) : SvAt w0 (boxR b (c.setIfInBounds o u) T :: L) p s K (w.setCell ⟨b, o, none⟩ u) := by
  obtain ⟨X, hX, S⟩ := A
  exact ⟨X, hX, (Sp.pick [_, _, _, _, _, _, _] [1, 2, 3, 4, 5, 6, 0] (by decide) ((((Sp.pick [_, _, _, _, _, _, _] [6, 0, 1, 2, 3, 4, 5] (by decide) (S))).set (o := o) u)))⟩
theorem SvAt.put8 {b : Nat} {T : TypeId} {a0 a1 a2 a3 a4 a5 a6 a7 : Value} (A : SvAt w0 (boxR b #[a0, a1, a2, a3, a4, a5, a6, a7] T :: L) p s K w) (u0 u1 u2 u3 u4 u5 u6 u7 : Value) : SvAt w0 (boxR b #[u0, u1, u2, u3, u4, u5, u6, u7] T :: L) p s K ((((((((w.setCell ⟨b, 0, none⟩ u0).setCell ⟨b, 1, none⟩ u1).setCell ⟨b, 2, none⟩ u2).setCell ⟨b, 3, none⟩ u3).setCell ⟨b, 4, none⟩ u4).setCell ⟨b, 5, none⟩ u5).setCell ⟨b, 6, none⟩ u6).setCell ⟨b, 7, none⟩ u7) := by
  have h := (((((((A.setBox 0 u0).setBox 1 u1).setBox 2 u2).setBox 3 u3).setBox 4 u4).setBox 5 u5).setBox 6 u6).setBox 7 u7
  simp only [List.setIfInBounds_toArray, List.set_cons_zero, List.set_cons_succ] at h
  exact h
theorem SvAt.get8 {b : Nat} {T : TypeId} {u0 u1 u2 u3 u4 u5 u6 u7 : Value} (A : SvAt w0 (boxR b #[u0, u1, u2, u3, u4, u5, u6, u7] T :: L) p s K w) : w.cell? ⟨b, 0, none⟩ = some u0 ∧ w.cell? ⟨b, 1, none⟩ = some u1 ∧ w.cell? ⟨b, 2, none⟩ = some u2 ∧ w.cell? ⟨b, 3, none⟩ = some u3 ∧ w.cell? ⟨b, 4, none⟩ = some u4 ∧ w.cell? ⟨b, 5, none⟩ = some u5 ∧ w.cell? ⟨b, 6, none⟩ = some u6 ∧ w.cell? ⟨b, 7, none⟩ = some u7 := by
  have h := A.boxCell.1
  exact ⟨h 0, h 1, h 2, h 3, h 4, h 5, h 6, h 7⟩
theorem QEv.in.forms {q : QEv} (h : q.in K) (S : Sp w0 [] w (romR K :: L)) : (∃ a n c, q.2.1 = .slice a n c) ∧ (∃ a n c, q.2.2 = .slice a n c) := by
  refine ⟨?_, ?_⟩
  · rcases h.1 with ⟨_, h⟩ | h
    · exact ⟨_, _, _, h⟩
    · obtain ⟨F, a, cap, h1, _⟩ := S.rom h
      exact ⟨_, _, _, h1⟩
  · rcases h.2 with ⟨_, h⟩ | h
    · exact ⟨_, _, _, h⟩
    · obtain ⟨F, a, cap, h1, _⟩ := S.rom h
      exact ⟨_, _, _, h1⟩
theorem SvAt.lt (A : SvAt w0 L p s K w) : p < w.heap.size := by
  obtain ⟨X, hX, S⟩ := A
  exact S.boxlt
/-- The reader is asked for a line. -/
theorem SvAt.reader (A : SvAt w0 L p s K w) (hc : s.came.length ≤ 1000000000) (E : Env w0) : ∃ vr vb vt vl rb va vc, (∀ o, w.cell? ⟨p, o, none⟩ = (svCells s ⟨vr, vb, vt, vl, .slice va s.queue.length vc, rb, []⟩)[o]?) ∧
    Calls Tryz.prog 38 #[.pointer (some ⟨rb, 0, none⟩)] w fun e w2 => e = .returned (.tuple #[.string ⟨(nxtR s.came).1.toArray⟩, .int .i64 (nxtR s.came).2.1, .bool (nxtR s.came).2.2]) ∧ SvAt w0 L p { s with came := ((lnNext s.came).map (·.2)).getD s.came } K w2 := by
  obtain ⟨X, hX, S⟩ := A
  have hl : X.qs.length = s.queue.length := by rw [← hX.queue, List.length_map]
  have hcall : Calls Tryz.prog 38 #[.pointer (some ⟨X.rb, 0, none⟩)] w fun e w2 => e = .returned (.tuple #[.string ⟨(nxtR s.came).1.toArray⟩, .int .i64 (nxtR s.came).2.1, .bool (nxtR s.came).2.2]) ∧ SvAt w0 L p { s with came := ((lnNext s.came).map (·.2)).getD s.came } K w2 := by
    refine (lrdNextS hc E ((Sp.pick [_, _, _, _, _, _] [1, 0, 2, 3, 4, 5] (by decide) (S)))).mono ?_
    rintro e w2 ⟨rfl, S2⟩
    exact ⟨rfl, X, ⟨hX.rules, hX.boxes, hX.queue, hX.evs⟩, (Sp.pick [_, _, _, _, _, _] [1, 0, 2, 3, 4, 5] (by decide) (S2))⟩
  rcases ((Sp.pick [_, _, _, _, _] [4] (by decide) (S))).rowForO with ⟨h1, h2⟩ | ⟨g, off, cap, h1, _⟩
  · refine ⟨X.vr, X.vb, X.vt, X.vl, X.rb, none, 0, fun o => ?_, hcall⟩
    rw [S.cell o, ← hl, h2, ← h1]
  · refine ⟨X.vr, X.vb, X.vt, X.vl, X.rb, some ⟨g, off, none⟩, cap, fun o => ?_, hcall⟩
    rw [S.cell o, ← hl, ← h1]
/-- The first of the queue: where it lies, and the others. -/
theorem SvAt.first {x : Ev} {l : List Ev} (A : SvAt w0 L p s K w) (hq : s.queue = x :: l) : ∃ vr vb vt vl rb g off cap vx vy, QEv.in K (x, vx, vy) ∧ ((∃ a n c, vx = .slice a n c) ∧ (∃ a n c, vy = .slice a n c)) ∧
    (∀ o, w.cell? ⟨p, o, none⟩ = (svCells s ⟨vr, vb, vt, vl, .slice (some ⟨g, off, none⟩) (l.length + 1) cap, rb, []⟩)[o]?) ∧ (∀ o, w.frozen? ⟨p, o, none⟩ = false) ∧ p < w.heap.size ∧ g < w.heap.size ∧ l.length + 1 ≤ cap ∧
    (∀ j u, (QEv.vals (x, vx, vy))[j]? = some u → w.cell? ⟨g, off + j, none⟩ = some u) ∧
    ∀ w2, Ext [] w w2 → SvAt w0 L p { s with queue := l } K (w2.setCell ⟨p, 15, none⟩ (.slice (some (if cap = 1 then ⟨g, off, none⟩ else ⟨g, off + 8, none⟩)) l.length (cap - 1))) := by
  obtain ⟨⟨vr, vb, vt, vl, vq, rb, qs⟩, hX, S⟩ := A
  have h1 : qs.map (·.1) = x :: l := hX.queue.trans hq
  obtain ⟨⟨x', vx, vy⟩, Q, rfl, rfl, rfl⟩ := List.map_eq_cons_iff.1 h1
  have hl : (Q.map (·.1)).length = Q.length := List.length_map _
  have S5 := (Sp.pick [_, _, _, _, _] [4, 0, 1, 2, 3] (by decide) (S))
  unfold queR at S5
  rcases S5.rowForO with ⟨_, h2⟩ | ⟨g, off, cap, h2, hcap⟩
  · cases h2
  · dsimp only at h2
    subst h2
    have hfl : (((x', vx, vy) :: Q).map QEv.vals).flatten = QEv.vals (x', vx, vy) ++ (Q.map QEv.vals).flatten := by simp
    rw [hfl] at S5
    refine ⟨vr, vb, vt, vl, rb, g, off, cap, vx, vy, hX.evs _ (by simp), QEv.in.forms (hX.evs (x', vx, vy) (by simp)) ((Sp.pick [_, _, _, _, _, _] [5] (by decide) (S))), fun o => ?_, S.free, S.boxlt, ?_, by rw [hl]; exact hcap, fun j u hj => ?_, fun w2 hx => ?_⟩
    · rw [S.cell o, hl]
      rfl
    · obtain ⟨F, hF, _⟩ := S5.take
      rcases hF.2 with ⟨h3, _⟩ | ⟨g', off', cap', C, h3, _, h4, _⟩
      · cases h3
      · cases h3
        exact heap_lt h4
    · refine S5.rowOCell j u ?_
      rw [List.getElem?_append_left (List.getElem?_eq_some_iff.1 hj).1]
      exact hj
    · have S6 := (S5.ext0 hx).rowOTail (n := Q.length) (x := QEv.vals (x', vx, vy)) rfl
      have S7 := (S6.pull1).set (o := 15) (.slice (some (if cap = 1 then ⟨g, off, none⟩ else ⟨g, off + 8, none⟩)) Q.length (cap - 1))
      rw [hl]
      exact ⟨⟨vr, vb, vt, vl, .slice (some (if cap = 1 then ⟨g, off, none⟩ else ⟨g, off + 8, none⟩)) Q.length (cap - 1), rb, Q⟩, ⟨hX.rules, hX.boxes, rfl, fun q hq2 => hX.evs q (List.mem_cons_of_mem _ hq2)⟩, (Sp.pick [_, _, _, _, _] [0, 2, 3, 4, 1] (by decide) (S7))⟩
set_option maxRecDepth 100000 in
set_option maxHeartbeats 8000000 in
theorem svNextS (hs : s.Sane) (hc : s.came.length ≤ 1000000000) (E : Env w0) (A : SvAt w0 L p s K w) : Calls Tryz.prog 12 #[.pointer (some ⟨p, 0, none⟩)] w (NextTo w0 L p K s) := by
  have HA0 := Lib.hid (A.box zeroEv 39)
  have HS := Lib.hid hs
  have HC := Lib.hid hc
  have HE := Lib.hid E
  clear A hs hc E
  go_enter Tryz.func12, Tryz.ntmps12
  go_upto_region 1 with (fail)
  generalize w.alloc _ = w1 at *
  generalize w.heap.size = q at *

  go_loopg [] s.came.length (fun gg wr => ∃ (t : Sv) (K' : List Rom), t.came.length ≤ gg ∧ t.came.length ≤ 1000000000 ∧ t.pull = s.pull ∧ t.Sane ∧ (∀ x ∈ K, x ∈ K') ∧ SvAt w0 (boxR q zeroEv 39 :: L) p t K' wr)
  case atStart => exact ⟨s, K, Nat.le_refl _, HC.out, rfl, HS.out, fun _ h => h, HA0.out⟩
  case round =>
    clear HA0
    obtain ⟨t, K', hg, hlen, hpull, hsane, hk, A⟩ := hrel
    have HP := Lib.hid hpull
    have HK := Lib.hid hk
    have HSN := Lib.hid hsane
    have hpi : (t.phase : Int) ≤ 3 := by have := hsane.phase; omega
    have hql : (t.queue.length : Int) ≤ 2 := by have := hsane.queue; omega
    have HA := Lib.hid A
    cases hq : t.queue with
    | cons x l =>
      have HW : Hid (s.next = (some x, { t with queue := l })) := by unfold Hid; rw [next_pull hpull.symm]; exact next_some hq
      obtain ⟨vr, vb, vt, vl, rb, g, off, cap, vx, vy, hin, ⟨⟨xa, xn, xc, rfl⟩, ⟨ya, yn, yc, rfl⟩⟩, c0, f0, l0, lg, hcap, cg, hset⟩ := A.first hq
      have HIN := Lib.hid hin
      have HSET := Lib.hid hset
      have g0 := cg 0 _ rfl
      have g1 := cg 1 _ rfl
      have g2 := cg 2 _ rfl
      have g3 := cg 3 _ rfl
      have g4 := cg 4 _ rfl
      have g5 := cg 5 _ rfl
      have g6 := cg 6 _ rfl
      have g7 := cg 7 _ rfl
      rw [Nat.add_zero] at g0
      dsimp only at g0 g1 g2 g3 g4 g5 g6 g7
      have hl2 : (l.length : Int) ≤ 1 := by have := hsane.queue; rw [hq] at this; simp at this; omega
      unfold svCells at c0
      dsimp only at c0
      clear A hin hset hpull hk hsane cg hq hg hlen hql
      go_upto_region 8 with (fail)
      clear g0 g1 g2 g3 g4 g5 g6 g7
      obtain ⟨cq, fq, lq⟩ := HA.out.boxCell
      by_cases hc1 : cap = 1
      · subst hc1
        have HS1 := HSET.out wr (Ext.refl _ _)
        rw [if_pos rfl] at HS1
        obtain rfl : l = [] := List.eq_nil_of_length_eq_zero (by omega)
        simp only [List.length_nil, Nat.sub_self] at HS1
        have HS2 := Lib.hid ((HS1.put8 (.int .i64 x.kind) (.int .i64 x.code) (.slice xa xn xc) (.string ⟨x.text.toArray⟩) (.string ⟨x.frm.1.toArray⟩) (.string ⟨x.frm.2.toArray⟩) (.slice ya yn yc) (.string ⟨x.body.toArray⟩)).ext0 ((Ext.refl [] _).alloc (.cells #[.int .i64 x.kind, .int .i64 x.code, .slice xa xn xc, .string ⟨x.text.toArray⟩, .string ⟨x.frm.1.toArray⟩, .string ⟨x.frm.2.toArray⟩, .slice ya yn yc, .string ⟨x.body.toArray⟩] 39)))
        clear HS1
        go_wp2
        generalize World.alloc _ _ = wF at *
        obtain ⟨e0, e1, e2, e3, e4, e5, e6, e7⟩ := HS2.out.get8
        have HFN : Hid (NextTo w0 L p K s (.returned (.tuple #[.agg #[.int .i64 x.kind, .int .i64 x.code, .slice xa xn xc, .string ⟨x.text.toArray⟩, .string ⟨x.frm.1.toArray⟩, .string ⟨x.frm.2.toArray⟩, .slice ya yn yc, .string ⟨x.body.toArray⟩], .bool true])) wF) := by
          unfold Hid NextTo
          rw [HW.out]
          exact ⟨K', HK.out, HS2.out.drop, _, _, HIN.out, rfl⟩
        clear c0 f0 l0 lg cq fq lq
        exact bodyPost_ret (v := .tuple #[.agg #[.int .i64 x.kind, .int .i64 x.code, .slice xa xn xc, .string ⟨x.text.toArray⟩, .string ⟨x.frm.1.toArray⟩, .string ⟨x.frm.2.toArray⟩, .slice ya yn yc, .string ⟨x.body.toArray⟩], .bool true]) (by simp [results, Tryz.results12, go_sem, e0, e1, e2, e3, e4, e5, e6, e7]) rfl HFN.out
      · have HS1 := HSET.out wr (Ext.refl _ _)
        rw [if_neg hc1] at HS1
        have HS2 := Lib.hid ((HS1.put8 (.int .i64 x.kind) (.int .i64 x.code) (.slice xa xn xc) (.string ⟨x.text.toArray⟩) (.string ⟨x.frm.1.toArray⟩) (.string ⟨x.frm.2.toArray⟩) (.slice ya yn yc) (.string ⟨x.body.toArray⟩)).ext0 ((Ext.refl [] _).alloc (.cells #[.int .i64 x.kind, .int .i64 x.code, .slice xa xn xc, .string ⟨x.text.toArray⟩, .string ⟨x.frm.1.toArray⟩, .string ⟨x.frm.2.toArray⟩, .slice ya yn yc, .string ⟨x.body.toArray⟩] 39)))
        clear HS1
        go_wp2
        generalize World.alloc _ _ = wF at *
        obtain ⟨e0, e1, e2, e3, e4, e5, e6, e7⟩ := HS2.out.get8
        have HFN : Hid (NextTo w0 L p K s (.returned (.tuple #[.agg #[.int .i64 x.kind, .int .i64 x.code, .slice xa xn xc, .string ⟨x.text.toArray⟩, .string ⟨x.frm.1.toArray⟩, .string ⟨x.frm.2.toArray⟩, .slice ya yn yc, .string ⟨x.body.toArray⟩], .bool true])) wF) := by
          unfold Hid NextTo
          rw [HW.out]
          exact ⟨K', HK.out, HS2.out.drop, _, _, HIN.out, rfl⟩
        clear c0 f0 l0 lg cq fq lq
        exact bodyPost_ret (v := .tuple #[.agg #[.int .i64 x.kind, .int .i64 x.code, .slice xa xn xc, .string ⟨x.text.toArray⟩, .string ⟨x.frm.1.toArray⟩, .string ⟨x.frm.2.toArray⟩, .slice ya yn yc, .string ⟨x.body.toArray⟩], .bool true]) (by simp [results, Tryz.results12, go_sem, e0, e1, e2, e3, e4, e5, e6, e7]) rfl HFN.out
    | nil =>
      obtain ⟨vr, vb, vt, vl, rb, va, vc, c0⟩ := A.queued
      have l0 := A.lt
      rw [hq] at c0
      obtain ⟨cq, fq, lq⟩ := A.boxCell
      unfold svCells at c0
      dsimp only [List.length_nil] at c0
      have HNO : Hid (∀ (W : World) (K2 : List Rom) (t2 : Sv), s.next = (none, t2) → (∀ x ∈ K, x ∈ K2) → SvAt w0 (boxR q zeroEv 39 :: L) p t2 K2 W → NextTo w0 L p K s (.returned (.tuple #[.agg zeroEv, .bool false])) W) := by
        intro W K2 t2 h1 h2 h3
        unfold NextTo
        rw [h1]
        exact ⟨K2, h2, h3.drop, rfl⟩
      by_cases hp2 : t.phase < 2
      · have hp2' : (t.phase : Int) < 2 := by omega
        clear c0
        obtain ⟨vr, vb, vt, vl, rb, va, vc, c0, hnx⟩ := A.reader hlen HE.out
        have HNX := Lib.hid hnx
        rw [hq] at c0
        unfold svCells at c0
        dsimp only [List.length_nil] at c0
        clear hnx A
        cases hl : lnNext t.came with
        | none =>
          have HW : Hid (s.next = (none, t)) := by unfold Hid; rw [next_pull hpull.symm]; exact next_none hq (pull_none hl)
          have e1 : nxtR t.came = ([], 0, false) := by unfold nxtR; rw [hl]
          rw [e1, hl] at HNX
          dsimp only [Option.map_none, Option.getD_none] at HNX
          clear hpull hk hsane hg hlen hp2 e1 hl
          go_wp2_with fail
          refine HNX.out.mono ?_
          rintro e w5 ⟨rfl, A5⟩
          have A5' : SvAt w0 (boxR q zeroEv 39 :: L) p t K' w5 := A5
          obtain ⟨vr5, vb5, vt5, vl5, rb5, va5, vc5, c5⟩ := A5'.queued
          rw [hq] at c5
          unfold svCells at c5
          dsimp only [List.length_nil] at c5
          have l5 := A5'.lt
          have HS2 := Lib.hid (A5'.put8 (.int .i64 0) (.int .i64 0) (.slice none 0 0) (.string ⟨#[]⟩) (.string ⟨#[]⟩) (.string ⟨#[]⟩) (.slice none 0 0) (.string ⟨#[]⟩))
          obtain ⟨cq5, fq5, lq5⟩ := A5'.boxCell
          clear A5 A5' c0 l0 cq fq lq hq
          go_wp2
          generalize World.setCell _ _ _ = wF at *
          obtain ⟨e0, e1, e2, e3, e4, e5, e6, e7⟩ := HS2.out.get8
          clear c5 l5 cq5 fq5 lq5
          have HFN := Lib.hid (HNO.out wF K' t HW.out HK.out HS2.out)
          exact bodyPost_ret (v := .tuple #[.agg zeroEv, .bool false]) (by simp [results, Tryz.results12, go_sem, e0, e1, e2, e3, e4, e5, e6, e7]) rfl HFN.out
        | some xr =>
          obtain ⟨x, r⟩ := xr
          have hll := lnNext_len hl
          rw [nxt_told hl, hl] at HNX
          dsimp only [Option.map_some, Option.getD_some] at HNX
          have hs5 : ({ t with came := r } : Sv).Sane := ⟨hsane.c, hsane.phase, hsane.errs, hsane.few, hsane.queue, hsane.rcs, hsane.size, hsane.lines⟩
          have HS6 : Hid ((({ t with came := r } : Sv).take x).Sane) := sane_take hs5 hq hp2 x
          have hcame : (({ t with came := r } : Sv).take x).came = r := by
            have := take_core t.core r t.queue x
            rw [show ({ t with came := r } : Sv) = t.core.sv r t.queue from rfl, this]
            rfl
          have HPL : Hid ((({ t with came := r } : Sv).take x).pull = s.pull) := by
            unfold Hid
            rw [← hpull, pull_some hq hp2 hl]
            have := take_core t.core r t.queue x
            rw [show ({ t with came := r } : Sv) = t.core.sv r t.queue from rfl, this, hq]
            rfl
          have HTK := Lib.hid (fun (W : World) (A' : SvAt w0 (boxR q zeroEv 39 :: L) p ({ t with came := r } : Sv) K' W) => svTakeS x hs5.good hsane.phase HE.out A')
          have hgr : r.length ≤ gk - 1 ∧ 0 < gk ∧ r.length ≤ 1000000000 := by omega
          have HGR := Lib.hid hgr
          have HCM := Lib.hid hcame
          generalize ({ t with came := r } : Sv).take x = t6 at *
          clear hpull hk hsane hg hlen hp2 hl hll hs5 hcame hgr hq
          go_wp2_with fail
          refine HNX.out.mono ?_
          rintro e w5 ⟨rfl, A5⟩
          have HA5 := Lib.hid A5
          clear A5 c0 l0 cq fq lq HNX
          go_wp2_with fail
          refine (HTK.out _ HA5.out).mono ?_
          rintro e w6 ⟨rfl, K6, hk6, A6⟩
          have HA6 := Lib.hid A6
          have HK6 := Lib.hid hk6
          clear A6 hk6
          go_wp2_with fail
          go_roundg (gk - 1)
          case rel => exact ⟨t6, K6, by rw [HCM.out]; exact HGR.out.1, by rw [HCM.out]; exact HGR.out.2.2, HPL.out, HS6.out, fun y hy => HK6.out y (HK.out y hy), HA6.out⟩
          case measure => have := HGR.out.2.1; omega
      · have hp2' : ¬ (t.phase : Int) < 2 := by omega
        have HW : Hid (s.next = (none, t)) := by unfold Hid; rw [next_pull hpull.symm]; exact next_none hq (pull_idle (by rintro ⟨_, h⟩; exact hp2 h))
        have HS2 := Lib.hid (A.put8 (.int .i64 0) (.int .i64 0) (.slice none 0 0) (.string ⟨#[]⟩) (.string ⟨#[]⟩) (.string ⟨#[]⟩) (.slice none 0 0) (.string ⟨#[]⟩))
        clear A hpull hk hsane hg hlen hq
        go_wp2
        generalize World.setCell _ _ _ = wF at *
        obtain ⟨e0, e1, e2, e3, e4, e5, e6, e7⟩ := HS2.out.get8
        clear c0 l0 cq fq lq
        have HFN := Lib.hid (HNO.out wF K' t HW.out HK.out HS2.out)
        exact bodyPost_ret (v := .tuple #[.agg zeroEv, .bool false]) (by simp [results, Tryz.results12, go_sem, e0, e1, e2, e3, e4, e5, e6, e7]) rfl HFN.out
end
end Go.Proofs.YtapenolbbofjkaaGreatDoor
