/- ServerPieces, plainly: piece by piece, or all at once. No program. -/
import Derived.Test.YtapenolbbofjkaaGreatDoorSvN
import Derived.Test.YtapenolbbofjkaaGreatDoorSvS
set_option linter.unusedSimpArgs false
set_option linter.unusedVariables false
set_option linter.unnecessarySimpa false
namespace Go.Proofs.YtapenolbbofjkaaGreatDoor

theorem feed_nil (e : Int) (n : Nat) (s : Sv) : Sv.feed e n [] s = ([], s) := by unfold Sv.feed; rfl
theorem feed_snoc (e : Int) (n : Nat) : ∀ (l : List Bs) (b : Bs) (s : Sv), Sv.feed e n (l ++ [b]) s = ((Sv.feed e n l s).1 ++ (((Sv.feed e n l s).2.add b).drain e n).1, (((Sv.feed e n l s).2.add b).drain e n).2)
  | [], b, s => by simp [Sv.feed]
  | a :: l, b, s => by
    rw [List.cons_append, Sv.feed, feed_snoc e n l b, Sv.feed]
    simp only [List.append_assoc]
theorem linesV_few (e : Int) : ∀ (ls : List Bs) (k : Core), k.phase ≤ 3 → k.phase ≠ 2 → (linesV e k ls).2.length + weight (linesV e k ls).1.phase ≤ 2 * ls.length + weight k.phase
  | [], k, _, _ => by simp [linesV]
  | l :: ls, k, h, h2 => by
    by_cases h3 : k.phase = 3
    · rw [linesV_over e h3]
      simp
    · have hf := few_act1 (show k.phase < 2 by omega) l
      have hl : (lineV e k l).2.length + weight (lineV e k l).1.phase ≤ 2 + weight k.phase ∧ (lineV e k l).1.phase ≤ 3 ∧ (lineV e k l).1.phase ≠ 2 := by
        unfold lineV
        by_cases h4 : (act1 k l).1.phase = 2
        · have hs := settle_bound e _ h4
          refine ⟨?_, hs.2.2, hs.2.1⟩
          dsimp only
          rw [List.length_append]
          omega
        · rw [settle_idle e h4]
          dsimp only
          rw [List.append_nil]
          exact ⟨hf.1, hf.2, h4⟩
      have ih := linesV_few e ls (lineV e k l).1 hl.2.1 hl.2.2
      rw [linesV, if_neg h3]
      dsimp only
      rw [List.length_append, List.length_cons]
      omega
theorem sane_drain (e : Int) : ∀ (n : Nat) {s : Sv}, s.Sane → (Sv.drain e n s).2.Sane
  | 0, s, h => h
  | n + 1, s, h => by
    have h2 := sane_next h
    have hq : s.next.1 = none → s.next.2.queue = [] := fun hn => by
      unfold Sv.next at hn ⊢
      split
      · rename_i hq
        exact hq
      · rename_i x q hq
        rw [hq] at hn
        cases hn
    unfold Sv.drain
    generalize s.next = q at *
    obtain ⟨x, t⟩ := q
    cases x with
    | some x => exact sane_drain e n h2
    | none =>
      dsimp only
      split
      · exact sane_drain e n (sane_verdict h2 (hq rfl) e)
      · exact h2
/-- A session between two pieces. -/
structure PcS (s : Sv) : Prop where
  phase : s.phase ≤ 3
  idle : s.phase ≠ 2
  queue : s.queue.length ≤ 1
  rest : s.phase ≠ 3 → (crR s.came).1 = []
theorem weight_le (p : Nat) : weight p ≤ 3 := by
  unfold weight
  repeat (first | (split; · omega) | omega)
theorem pc_step (e : Int) {s : Sv} (h : PcS s) (b : Bs) (hb : b.length ≤ 2000) : PcS (Sv.drain e 262144 (s.add b)).2 ∧ (Sv.drain e 262144 (s.add b)).1.length ≤ 2100 := by
  obtain ⟨a1, a2, a3⟩ := s.add_core b
  have hw0 := weight_le s.phase
  have hn : s.phase ≠ 3 → 2 * (crR (s.add b).came).1.length ≤ 2001 := fun h3 => by
    have hca : (s.add b).came = s.came ++ b := by unfold Sv.add; rw [if_neg h3]
    rw [hca]
    have := lines_more (h.rest h3) b
    omega
  have hw : (s.add b).work ≤ 262144 := by
    unfold Sv.work
    rw [a2, a3]
    have := h.queue
    by_cases h3 : s.phase = 3
    · unfold load
      rw [if_pos h3]
      omega
    · rw [«load_go» h3]
      have := hn h3
      omega
  have hd := drain_spec e 262144 (s.add b).came.length (s.add b) (Nat.le_refl _) (by rw [a3]; exact h.phase) hw
  have hp := drained_phase hd (by rw [a3]; exact h.phase)
  obtain ⟨d1, d2, d3, d4, d5⟩ := hd
  generalize Sv.drain e 262144 (s.add b) = x at *
  rw [a1, settle_idle e (show s.core.phase ≠ 2 from h.idle)] at d1
  dsimp only at d1
  refine ⟨⟨hp, d5, by rw [d3]; simp, fun h3 => by rw [d4 h3]; exact crR_rest _⟩, ?_⟩
  rw [d1, a2, List.nil_append, List.length_append]
  have := h.queue
  by_cases h3 : s.phase = 3
  · rw [linesV_over e (show s.core.phase = 3 from h3)]
    simp only [List.length_nil]
    omega
  · have := linesV_few e (crR (s.add b).came).1 s.core h.phase h.idle
    have := hn h3
    have h5 : weight s.core.phase = weight s.phase := rfl
    omega
theorem pc_last (e : Int) {s : Sv} (h : PcS s) : (Sv.drain e 262144 s).1.length ≤ 1 := by
  have hw : s.work ≤ 262144 := by
    unfold Sv.work
    have := h.queue
    have := weight_le s.phase
    by_cases h3 : s.phase = 3
    · unfold load
      rw [if_pos h3]
      omega
    · rw [«load_go» h3, h.rest h3]
      simp only [List.length_nil]
      omega
  have hd := drain_spec e 262144 s.came.length s (Nat.le_refl _) h.phase hw
  rw [hd.evs, settle_idle e (show s.core.phase ≠ 2 from h.idle), List.nil_append, List.length_append]
  have := h.queue
  by_cases h3 : s.phase = 3
  · rw [linesV_over e (show s.core.phase = 3 from h3)]
    simp only [List.length_nil]
    omega
  · rw [h.rest h3]
    show s.queue.length + 0 ≤ 1
    omega
/-- All that came at once. -/
def Sv.with (s : Sv) (b : Bs) : Sv := { s with came := b }
theorem new_facts : (svNew cfS).phase = 0 ∧ (svNew cfS).came = [] ∧ (svNew cfS).queue.length = 1 := ⟨by kernel_rfl, by kernel_rfl, by kernel_rfl⟩
theorem pc_new : PcS (svNew cfS) := by
  obtain ⟨h1, h2, h3⟩ := new_facts
  exact ⟨by omega, by omega, by omega, fun _ => by rw [h2]; rfl⟩
theorem with_new : Sv.with (svNew cfS) [] = svNew cfS := by kernel_rfl
theorem with_add (a b : Bs) : (Sv.with (svNew cfS) a).add b = Sv.with (svNew cfS) (a ++ b) := by
  unfold Sv.add
  rw [if_neg (show ¬ (Sv.with (svNew cfS) a).phase = 3 by show ¬ (svNew cfS).phase = 3; rw [new_facts.1]; decide)]
  rfl
theorem pc_feed (e : Int) : ∀ (n : Nat) (l : List Bs), (∀ b ∈ l, b.length ≤ 2000) → l.length = n → PcS (Sv.feed e 262144 l (svNew cfS)).2 ∧ (Sv.feed e 262144 l (svNew cfS)).1.length ≤ n * 2100
  | 0, l, _, h => by
    rw [List.eq_nil_of_length_eq_zero h, feed_nil]
    exact ⟨pc_new, Nat.le_refl _⟩
  | n + 1, l, hb, h => by
    rcases List.eq_nil_or_concat l with rfl | ⟨l', b, rfl⟩
    · cases h
    · rw [List.concat_eq_append] at *
      obtain ⟨h1, h2⟩ := pc_feed e n l' (fun x hx => hb x (by simp [hx])) (by simpa using h)
      rw [feed_snoc]
      have h3 := pc_step e h1 b (hb b (by simp))
      refine ⟨h3.1, ?_⟩
      dsimp only
      rw [List.length_append]
      omega
/-- How bytes come doesn't matter. -/
theorem pc_end (e : Int) (l : List Bs) (hb : ∀ b ∈ l, b.length ≤ 2000) (hl : l.length ≤ 60) :
    (Sv.feed e 262144 l (svNew cfS)).1 ++ (Sv.drain e 262144 (Sv.feed e 262144 l (svNew cfS)).2).1 = (Sv.drain e 262144 (Sv.with (svNew cfS) l.flatten)).1 ∧
      (Sv.drain e 262144 (Sv.feed e 262144 l (svNew cfS)).2).2.phase = (Sv.drain e 262144 (Sv.with (svNew cfS) l.flatten)).2.phase := by
  obtain ⟨n1, n2, n3⟩ := new_facts
  have hfl : l.flatten.length ≤ l.length * 2000 := by
    clear hl
    induction l with
    | nil => simp
    | cons a l ih =>
      have := ih fun x hx => hb x (by simp [hx])
      have := hb a (by simp)
      rw [List.flatten_cons, List.length_append, List.length_cons]
      omega
  obtain ⟨f1, f2, _⟩ := feed_spec e 262144 l (svNew cfS) (by omega) (by rw [n2, n3]; simp only [List.length_nil]; omega)
  obtain ⟨g1, g2, _⟩ := feed_spec e 262144 [] (Sv.with (svNew cfS) l.flatten) (by show (svNew cfS).phase ≤ 3; omega) (by
    show (svNew cfS).queue.length + l.flatten.length + ([] : List Bs).flatten.length + 5 ≤ 262144
    rw [n3]
    simp only [List.flatten_nil, List.length_nil]
    omega)
  have e1 : evsOf e (svNew cfS) l.flatten = evsOf e (Sv.with (svNew cfS) l.flatten) ([] : List Bs).flatten := by
    unfold evsOf
    rw [n2, List.nil_append]
    show _ = (svNew cfS).queue ++ ((settle e (svNew cfS).core).2 ++ (linesV e (settle e (svNew cfS).core).1 (crR (l.flatten ++ ([] : List Bs).flatten)).1).2)
    rw [List.flatten_nil, List.append_nil]
  have e2 : coreOf e (svNew cfS) l.flatten = coreOf e (Sv.with (svNew cfS) l.flatten) ([] : List Bs).flatten := by
    unfold coreOf
    rw [n2, List.nil_append]
    show _ = (linesV e (settle e (svNew cfS).core).1 (crR (l.flatten ++ ([] : List Bs).flatten)).1).1
    rw [List.flatten_nil, List.append_nil]
  rw [← e1, feed_nil] at g1
  rw [← e2, feed_nil] at g2
  dsimp only at g1 g2
  rw [List.nil_append] at g1
  refine ⟨f1.trans g1.symm, ?_⟩
  have h3 := congrArg Core.phase (f2.trans g2.symm)
  exact h3
end Go.Proofs.YtapenolbbofjkaaGreatDoor
