/- ring, plainly: epochs never fall, whatever dies and crashes. No program. -/
import Derived.Test.YtpkolkgndhagiaaRingQ
namespace Go.Proofs.Ytpkolkgndhagiaa
open Go.RowKit Go.Maps

def st (l : List RRow) (d : Bs) : RSt := ringState (ringPuts l) d
theorem st_snoc (l : List RRow) (x : Bs) (s : RSt) (d : Bs) : st (l ++ [(x, s)]) d = if x = d then s else st l d := by
  unfold st ringState
  rw [ringPuts_snoc, Mp.get_put]
  split <;> rfl
def row2 (s : RSt) : Prop := 1 ≤ s.now ∧ (s.old = 0 ∨ s.old = s.now - 1)
structure Rise (D : Dk) (l t : List RRow) : Prop where
  rd : RD D l t
  two : ∀ p ∈ l ++ t, row2 p.2
  step : t = [] ∨ ∃ x s, t = [(x, s)] ∧ (s.now = (st l x).now ∨ s.now = (st l x).now + 1)
theorem st_two {l : List RRow} (h : ∀ p ∈ l, row2 p.2) (d : Bs) : row2 (st l d) := by
  unfold st ringState Mp.get
  cases hf : (ringPuts l).find? fun p => p.1 == d with
  | none => exact ⟨by simp, by simp⟩
  | some p => exact h p (ringPuts_mem (List.mem_of_find?_eq_some hf))
theorem Rise.st {D : Dk} {l t : List RRow} (h : Rise D l t) (d : Bs) : row2 (st l d) := st_two (fun p hp => h.two p (by simp [hp])) d
def KE (l : List RRow) (K : Mp Nat) : Prop := ∀ p ∈ K, p.2 = (st l p.1).now
def KW (l : List RRow) (K : Mp Nat) : Prop := ∀ p ∈ K, p.2 ≤ (st l p.1).now ∧ (st l p.1).now ≤ p.2 + 1
theorem KE.weak {l : List RRow} {K : Mp Nat} (h : KE l K) : KW l K := fun p hp => by have := h p hp; omega
/-- How things stand ahead of an act (b: a bound). -/
structure RInv (b : Nat) (D : Dk) (M : Mp RSt) (K : Mp Nat) (l t : List RRow) : Prop where
  rise : Rise D l t
  map : D.dead = false → M = ringPuts l
  ok : ringOk M
  exact : KE l K
  trace : D.trace.length ≤ 10 + 2 * b
  rows : (l ++ t).length ≤ b
  keys : K.length ≤ b
/-- .. and behind it (re: the ring is to be opened anew). -/
structure Mid (b : Nat) (re : Bool) (D : Dk) (M : Mp RSt) (K : Mp Nat) (l t : List RRow) : Prop where
  rise : Rise D l t
  map : D.dead = false → re = false → M = ringPuts l
  ok : ringOk M
  exact : D.dead = true → KE l K
  weak : D.dead = false → KW l K
  trace : D.trace.length ≤ 10 + 2 * b
  rows : (l ++ t).length ≤ b
  keys : K.length ≤ b
theorem RInv.roomy {b : Nat} {D : Dk} {M : Mp RSt} {K : Mp Nat} {l t : List RRow} (h : RInv b D M K l t) (hb : b ≤ 3000) : D.Roomy 1000000 := h.rise.rd.roomy (by have := h.trace; omega) (by have := h.rows; omega)
theorem Mid.roomy {b : Nat} {re : Bool} {D : Dk} {M : Mp RSt} {K : Mp Nat} {l t : List RRow} (h : Mid b re D M K l t) (hb : b ≤ 3000) : D.Roomy 1000000 := h.rise.rd.roomy (by have := h.trace; omega) (by have := h.rows; omega)
theorem RInv.mid {b : Nat} {D : Dk} {M : Mp RSt} {K : Mp Nat} {l t : List RRow} (h : RInv b D M K l t) (re : Bool) : Mid (b + 1) re D M K l t :=
  ⟨h.rise, fun hd _ => h.map hd, h.ok, fun _ => h.exact, fun _ => h.exact.weak, by have := h.trace; omega, by have := h.rows; omega, by have := h.keys; omega⟩
theorem RInv.quota {b : Nat} {D : Dk} {M : Mp RSt} {K : Mp Nat} {l t : List RRow} (h : RInv b D M K l t) (q : Int) : Mid (b + 1) false { D with quota := q } M K l t := by
  have m := h.mid false
  exact ⟨⟨h.rise.rd.quota q, h.rise.two, h.rise.step⟩, m.map, m.ok, m.exact, m.weak, m.trace, m.rows, m.keys⟩
theorem setFuse_dead (D : Dk) (n : Int) : (D.setFuse n).dead = D.dead := by unfold Dk.setFuse; split <;> rfl
theorem setFuse_trace (D : Dk) (n : Int) : (D.setFuse n).trace = D.trace := by unfold Dk.setFuse; split <;> rfl
theorem RInv.fuse {b : Nat} {D : Dk} {M : Mp RSt} {K : Mp Nat} {l t : List RRow} (h : RInv b D M K l t) (n : Int) (hn : n ≤ 9223372036854775807) : Mid (b + 1) false (D.setFuse n) M K l t := by
  have m := h.mid false
  exact ⟨⟨h.rise.rd.setFuse n hn, h.rise.two, h.rise.step⟩, by rw [setFuse_dead]; exact m.map, m.ok, by rw [setFuse_dead]; exact m.exact, by rw [setFuse_dead]; exact m.weak, by rw [setFuse_trace]; exact m.trace, m.rows, m.keys⟩
theorem RInv.crash {b : Nat} {D : Dk} {M : Mp RSt} {K : Mp Nat} {l t : List RRow} (h : RInv b D M K l t) (n : Int) : ∃ l2, Mid (b + 1) true (D.crash n) M K l2 [] := by
  refine ⟨l ++ t.take n.toNat, ⟨h.rise.rd.crash n, ?_, .inl rfl⟩, (fun _ hh => by cases hh), h.ok, (fun hd => by simp [Dk.crash] at hd), fun _ p hp => ?_, by have := h.trace; simp only [Dk.crash]; omega, ?_, by have := h.keys; omega⟩
  · intro p hp
    refine h.rise.two p ?_
    simp only [List.append_nil, List.mem_append] at hp ⊢
    exact hp.imp id List.mem_of_mem_take
  · have he := h.exact p hp
    rcases h.rise.step with rfl | ⟨x, s, rfl, hs⟩
    · simp only [List.take_nil, List.append_nil]
      omega
    · cases hn : n.toNat with
      | zero => simp only [List.take_zero, List.append_nil]; omega
      | succ m =>
        simp only [List.take_succ_cons, List.take_nil]
        rw [st_snoc]
        split
        · rename_i hx
          subst hx
          omega
        · omega
  · have := h.rows
    simp at this ⊢
    omega
theorem ringSet_dead {D : Dk} {M : Mp RSt} {x : Bs} {s : RSt} (hd : D.dead = true) : (ringSet D M x s).1 = D ∧ (ringSet D M x s).2.1 = M ∧ (s ≠ ringState M x → (ringSet D M x s).2.2 ≠ 0) := by
  have hdd : ({ D with dead := true } : Dk) = D := by cases D; simp_all
  have ha : ∃ c, c ≠ 0 ∧ D.append ringB (ringRow x s) = (D, c) := by
    unfold Dk.append
    split
    · split
      · exact ⟨12, by decide, rfl⟩
      · refine ⟨13, by decide, ?_⟩
        unfold Dk.done
        rw [if_pos (by simp [hd]), hdd]
    · exact ⟨10, by decide, rfl⟩
  obtain ⟨c, hc, ha⟩ := ha
  unfold ringSet
  split
  · exact ⟨rfl, rfl, fun h => absurd ‹_› h⟩
  · rw [ha, if_pos hc]
    exact ⟨rfl, rfl, fun _ => hc⟩
/-- What setting a state leads to, where it rises or stays. -/
theorem RInv.set {b : Nat} {D : Dk} {M : Mp RSt} {K : Mp Nat} {l t : List RRow} (h : RInv b D M K l t) (x : Bs) (s : RSt) (hs : rowOk (x, s)) (h2 : row2 s) (hne : s ≠ ringState M x) (hup : D.dead = false → s.now = (st l x).now ∨ s.now = (st l x).now + 1) :
    ((ringSet D M x s).2.2 ≠ 0 ∧ (ringSet D M x s).2.1 = M ∧ ∃ l2 t2, Mid (b + 1) false (ringSet D M x s).1 M K l2 t2) ∨
    (D.dead = false ∧ (ringSet D M x s).2 = (M.put x s, 0) ∧ (ringSet D M x s).1.dead = false ∧ Rise (ringSet D M x s).1 (l ++ [(x, s)]) [] ∧ (ringSet D M x s).1.trace.length ≤ 10 + 2 * (b + 1) ∧ t = []) := by
  have hm := h.mid false
  have ht := h.trace
  cases hd : D.dead with
  | true =>
    obtain ⟨e1, e2, e3⟩ := ringSet_dead (M := M) (x := x) (s := s) hd
    exact .inl ⟨e3 hne, e2, l, t, by rw [e1]; exact hm⟩
  | false =>
    have ht0 : t = [] := by
      cases t with
      | nil => rfl
      | cons a r => have := h.rise.rd.dead (by simp); rw [hd] at this; cases this
    subst ht0
    have htwo : ∀ p ∈ (l ++ [(x, s)]) ++ [], row2 p.2 := by
      intro p hp
      simp only [List.append_nil, List.mem_append, List.mem_singleton] at hp
      rcases hp with hp | rfl
      · exact h.rise.two p (by simp [hp])
      · exact h2
    rcases h.rise.rd.set M x s hs hne with ⟨e1, e2, _⟩ | ⟨e1, e2, e3, e4, _, e5⟩ | ⟨e1, e2, _, e4, e5, e6, _, e8⟩
    · exact .inl ⟨by rw [e1]; simp, by rw [e1], l, [], by rw [e2]; exact hm⟩
    · refine .inl ⟨by rw [e1]; simp, by rw [e1], ?_⟩
      rcases e5 with e5 | e5
      · exact ⟨l, [], ⟨e5, h.rise.two, .inl rfl⟩, (fun hh => by rw [e2] at hh; cases hh), h.ok, fun _ => h.exact, fun _ => h.exact.weak, by omega, hm.rows, hm.keys⟩
      · exact ⟨l, [(x, s)], ⟨e5, by simpa using htwo, .inr ⟨x, s, rfl, hup hd⟩⟩, (fun hh => by rw [e2] at hh; cases hh), h.ok, fun _ => h.exact, fun _ => h.exact.weak, by omega, by have := h.rows; simp at this ⊢; omega, hm.keys⟩
    · exact .inr ⟨rfl, e1, e2, ⟨e8, htwo, .inl rfl⟩, by omega, rfl⟩
theorem get_mem {K : Mp Nat} {x : Bs} {n : Nat} (h : K.get x = some n) : (x, n) ∈ K := by
  unfold Mp.get at h
  obtain ⟨p, hp, he⟩ := Option.map_eq_some_iff.1 h
  have h1 := List.find?_some hp
  have h2 := List.mem_of_find?_eq_some hp
  simp only [beq_iff_eq] at h1
  rw [← h1, ← he]
  exact h2
theorem RInv.begin {b : Nat} {D : Dk} {M : Mp RSt} {K : Mp Nat} {l t : List RRow} (h : RInv b D M K l t) (x : Bs) (hb : b ≤ 1000) :
    ((ringBegin D M x).2.2.2 = 0 ∧ (K.get x).getD 0 < (ringBegin D M x).2.2.1 ∧ 2 ≤ (ringBegin D M x).2.2.1 ∧ ∃ l2 t2, Mid (b + 1) false (ringBegin D M x).1 (ringBegin D M x).2.1 (K.put x (ringBegin D M x).2.2.1) l2 t2) ∨
    ((ringBegin D M x).2.2.2 ≠ 0 ∧ (ringBegin D M x).2.2.1 = 0 ∧ ∃ l2 t2, Mid (b + 1) false (ringBegin D M x).1 (ringBegin D M x).2.1 K l2 t2) := by
  have hm := h.mid false
  have hst := h.ok.state x
  unfold ringBegin
  split
  · exact .inr ⟨by simp, rfl, l, t, hm⟩
  · split
    · exact .inr ⟨by simp, rfl, l, t, hm⟩
    · split
      · exact .inr ⟨by simp, rfl, l, t, hm⟩
      · rename_i h1 h2 h3
        have hne : (⟨(ringState M x).now + 1, (ringState M x).now⟩ : RSt) ≠ ringState M x := by
          intro e
          have := congrArg RSt.now e
          simp at this
        have hset := h.set x ⟨(ringState M x).now + 1, (ringState M x).now⟩ ⟨by simp only; omega, by simp only; omega, by simp only; omega⟩ ⟨by simp, .inr (by simp)⟩ hne (fun hd => .inr (by rw [h.map hd]; rfl))
        rcases hset with ⟨e1, e2, l2, t2, e3⟩ | ⟨e0, e1, e2, e3, e4, rfl⟩
        · rw [if_pos e1, e2]
          exact .inr ⟨e1, rfl, l2, t2, e3⟩
        · have hM := h.map e0
          rw [if_neg (by rw [e1]; simp)]
          left
          have hn : (ringState M x).now = (st l x).now := by rw [hM]; rfl
          have hp : M.put x ⟨(ringState M x).now + 1, (ringState M x).now⟩ = ringPuts (l ++ [(x, ⟨(ringState M x).now + 1, (ringState M x).now⟩)]) := by
            rw [ringPuts_snoc, ← hM]
          refine ⟨rfl, ?_, ?_, l ++ [(x, ⟨(ringState M x).now + 1, (ringState M x).now⟩)], [], ⟨e3, (fun _ _ => by rw [e1]; exact hp), ?_, fun hh => ?_, fun _ p hp => ?_, e4, ?_, ?_⟩⟩
          · cases hg : K.get x with
            | none => simp
            | some n =>
              have := h.exact _ (get_mem hg)
              simp only [Option.getD_some]
              dsimp only at this
              omega
          · have := (h.rise.st x).1
            simp only
            omega
          · rw [e1]
            dsimp only
            rw [hp]
            refine ringPuts_ok (fun p hp => e3.rd.ok p (by simpa using hp)) ?_
            have := h.rows
            simp at this ⊢
            omega
          · rw [e2] at hh
            cases hh
          · rcases Mp.mem_put.1 hp with rfl | ⟨hp, hpx⟩
            · dsimp only
              rw [st_snoc, if_pos rfl]
              simp
            · rw [st_snoc, if_neg (fun e => hpx e.symm)]
              have := h.exact p hp
              omega
          · have := h.rows
            simp at this ⊢
            omega
          · have := Mp.length_put_le K x ((ringState M x).now + 1)
            have := h.keys
            dsimp only
            omega
theorem RInv.end {b : Nat} {D : Dk} {M : Mp RSt} {K : Mp Nat} {l t : List RRow} (h : RInv b D M K l t) (x : Bs) (hb : b ≤ 1000) :
    ∃ l2 t2, Mid (b + 1) false (ringEnd D M x).1 (ringEnd D M x).2.1 K l2 t2 := by
  have hm := h.mid false
  have hst := h.ok.state x
  unfold ringEnd
  split
  · exact ⟨l, t, hm⟩
  · split
    · exact ⟨l, t, hm⟩
    · rename_i h1 h2
      have hne : (⟨(ringState M x).now, 0⟩ : RSt) ≠ ringState M x := by
        intro e
        have := congrArg RSt.old e
        simp at this
        exact h2 this.symm
      cases hd : D.dead with
      | true =>
        obtain ⟨e1, e2, e3⟩ := ringSet_dead (M := M) (x := x) (s := ⟨(ringState M x).now, 0⟩) hd
        exact ⟨l, t, by rw [e1, e2]; exact hm⟩
      | false =>
        have hM := h.map hd
        have hn : (ringState M x).now = (st l x).now := by rw [hM]; rfl
        have hset := h.set x ⟨(ringState M x).now, 0⟩ ⟨by simp only; omega, by simp only; omega, by simp⟩ ⟨by simp only; rw [hn]; exact (h.rise.st x).1, .inl rfl⟩ hne (fun hd => .inl (by rw [h.map hd]; rfl))
        rcases hset with ⟨e1, e2, l2, t2, e3⟩ | ⟨e0, e1, e2, e3, e4, rfl⟩
        · exact ⟨l2, t2, by rw [e2]; exact e3⟩
        · have hp := ringPuts_snoc l (x, (⟨(ringState M x).now, 0⟩ : RSt))
          dsimp only at hp
          refine ⟨l ++ [(x, ⟨(ringState M x).now, 0⟩)], [], ⟨e3, fun _ _ => by rw [e1, hp, ← hM], ?_, fun hh => (by rw [e2] at hh; cases hh), fun _ p hp => ?_, e4, ?_, by have := h.keys; omega⟩⟩
          · rw [e1]
            dsimp only
            rw [show M.put x ⟨(ringState M x).now, 0⟩ = ringPuts (l ++ [(x, ⟨(ringState M x).now, 0⟩)]) by rw [hp, ← hM]]
            refine ringPuts_ok (fun p hp => e3.rd.ok p (by simpa using hp)) ?_
            have := h.rows
            simp at this ⊢
            omega
          · have := h.exact p hp
            rw [st_snoc]
            split
            · rename_i hx
              subst hx
              simp only
              omega
            · omega
          · have := h.rows
            simp at this ⊢
            omega
/-- Opened anew (re: it had to be). -/
theorem Mid.reopen {b : Nat} {re : Bool} {D : Dk} {M : Mp RSt} {K : Mp Nat} {l t : List RRow} (h : Mid b re D M K l t) (hb : b ≤ 1000) : ringOpen D = (D, some (ringPuts (l ++ t)), 0) ∧ Mid b false D (ringPuts (l ++ t)) K l t := by
  refine ⟨h.rise.rd.open, h.rise, fun hd _ => ?_, ringPuts_ok h.rise.rd.ok (by have := h.rows; omega), h.exact, h.weak, h.trace, h.rows, h.keys⟩
  cases t with
  | nil => rw [List.append_nil]
  | cons a r => have := h.rise.rd.dead (by simp); rw [hd] at this; cases this
theorem Mid.inv {b : Nat} {D : Dk} {M : Mp RSt} {K : Mp Nat} {l t : List RRow} (h : Mid b false D M K l t) (he : KE l K) : RInv b D M K l t := ⟨h.rise, fun hd => h.map hd rfl, h.ok, he, h.trace, h.rows, h.keys⟩
end Go.Proofs.Ytpkolkgndhagiaa
