/- ring, plainly: Begin and End on a disk that nothing has broken. No program. -/
import Derived.Test.YtpkolkgndhagiaaRingP
import Derived.Test.YtpkolkgndhagiaaActK
namespace Go.Proofs.Ytpkolkgndhagiaa
open Go.RowKit Go.Maps

theorem ringPuts_mem {l : List RRow} {p : RRow} (h : p ∈ ringPuts l) : p ∈ l := by
  have : ∀ (l : List RRow) (M : Mp RSt), p ∈ l.foldl (fun M q => M.put q.1 q.2) M → p ∈ l ∨ p ∈ M := by
    intro l
    induction l with
    | nil => intro M h; exact .inr h
    | cons x r ih =>
      intro M h
      rcases ih _ h with h | h
      · exact .inl (by simp [h])
      · rcases Mp.mem_put.1 h with rfl | h
        · exact .inl (by simp)
        · exact .inr h.1
  rcases this l [] h with h | h
  · exact h
  · cases h
theorem ringPuts_ok {l : List RRow} (h : ∀ p ∈ l, rowOk p) (hl : l.length ≤ 1000000) : ringOk (ringPuts l) := by
  have h1 := ringPuts_length l
  exact ⟨by omega, fun p hp => (h p (ringPuts_mem hp)).2⟩
theorem ringSet_fail {D : Dk} {M : Mp RSt} {x : Bs} {s : RSt} (h : (ringSet D M x s).2.2 ≠ 0) : (ringSet D M x s).2.1 = M := by
  unfold ringSet at *
  split
  · rfl
  · split
    · rfl
    · split
      · rfl
      · rename_i h1 h2 h3
        rw [if_neg h1, if_neg h2, if_neg h3] at h
        exact absurd rfl h
theorem ringBegin_fail {D : Dk} {M : Mp RSt} {x : Bs} (h : (ringBegin D M x).2.2.2 ≠ 0) : (ringBegin D M x).2.1 = M ∧ (ringBegin D M x).2.2.1 = 0 := by
  unfold ringBegin at *
  split
  · exact ⟨rfl, rfl⟩
  · split
    · exact ⟨rfl, rfl⟩
    · split
      · exact ⟨rfl, rfl⟩
      · split
        · rename_i h4
          exact ⟨ringSet_fail h4, rfl⟩
        · rename_i h1 h2 h3 h4
          rw [if_neg h1, if_neg h2, if_neg h3, if_neg h4] at h
          exact absurd rfl h
theorem ringEnd_fail {D : Dk} {M : Mp RSt} {x : Bs} (h : (ringEnd D M x).2.2 ≠ 0) : (ringEnd D M x).2.1 = M := by
  unfold ringEnd at *
  split
  · rfl
  · split
    · rfl
    · rename_i h1 h2
      rw [if_neg h1, if_neg h2] at h
      exact ringSet_fail h
theorem append_full {D : Dk} (hq : D.quota ≤ 0) (x : Bs) (s : RSt) : (D.append ringB (ringRow x s)).2 ≠ 0 := by
  unfold Dk.append
  split
  · rw [if_pos]
    · simp
    · have : 0 < (ringRow x s).length := by
        rcases hr : ringRow x s with _ | ⟨a, r⟩
        · exact absurd hr (ringRow_ne x s)
        · simp
      omega
  · simp
theorem ringSet_full {D : Dk} {M : Mp RSt} {x : Bs} {s : RSt} (hq : D.quota ≤ 0) (hne : s ≠ ringState M x) : (ringSet D M x s).2.2 ≠ 0 := by
  have := append_full hq x s
  unfold ringSet
  rw [if_neg hne, if_pos this]
  exact this
theorem ringBegin_full {D : Dk} {M : Mp RSt} {x : Bs} (hq : D.quota ≤ 0) : (ringBegin D M x).2.2.2 ≠ 0 := by
  unfold ringBegin
  split
  · simp
  · split
    · simp
    · split
      · simp
      · rename_i h1 h2 h3
        have := ringSet_full (M := M) (x := x) (s := ⟨(ringState M x).now + 1, (ringState M x).now⟩) hq (by
          intro e
          have := congrArg RSt.now e
          simp at this)
        rw [if_pos this]
        exact this
theorem ringEnd_full {D : Dk} {M : Mp RSt} {x : Bs} (hq : D.quota ≤ 0) : (ringEnd D M x).2.2 ≠ 0 := by
  unfold ringEnd
  split
  · simp
  · split
    · simp
    · rename_i h1 h2
      exact ringSet_full hq (by
        intro e
        have := congrArg RSt.old e
        simp at this
        exact h2 this.symm)

/-- A ring's disk that nothing has broken; whatever room there is. -/
structure AliveQ (D : Dk) (l : List RRow) : Prop where
  rd : RD D l []
  dead : D.dead = false
  fuse : D.fuse < 0
  trace : D.trace.length ≤ 10 + 2 * l.length
theorem AliveQ.roomy {D : Dk} {l : List RRow} (h : AliveQ D l) (hl : l.length ≤ 3000) : D.Roomy 1000000 := h.rd.roomy (by have := h.trace; omega) (by simp; omega)
theorem AliveQ.rows {D : Dk} {l : List RRow} (h : AliveQ D l) : ∀ p ∈ l, rowOk p := fun p hp => h.rd.ok p (by simp [hp])
theorem AliveQ.ringOk {D : Dk} {l : List RRow} (h : AliveQ D l) (hl : l.length ≤ 3000) : ringOk (ringPuts l) := ringPuts_ok h.rows (by omega)
theorem AliveQ.set {D : Dk} {l : List RRow} (h : AliveQ D l) (x : Bs) (s : RSt) (hs : rowOk (x, s)) (hne : s ≠ ringState (ringPuts l) x) :
    ∃ l2, AliveQ (ringSet D (ringPuts l) x s).1 l2 ∧ (ringSet D (ringPuts l) x s).2.1 = ringPuts l2 ∧ l2.length ≤ l.length + 1 ∧ (ringSet D (ringPuts l) x s).1.quota = D.quota := by
  rcases h.rd.set (ringPuts l) x s hs hne with ⟨e1, e2, _⟩ | ⟨_, _, _, _, hd, _⟩ | ⟨e1, e2, _, e4, e5, e6, _, e8⟩
  · exact ⟨l, by rw [e2]; exact h, by rw [e1], by omega, by rw [e2]⟩
  · rw [h.dead] at hd
    have := h.fuse
    rcases hd with hd | hd
    · cases hd
    · omega
  · refine ⟨l ++ [(x, s)], ⟨e8, e2, by rw [e6 h.fuse]; exact h.fuse, ?_⟩, by rw [e1, ringPuts_snoc], by simp, e4⟩
    rw [e5]
    have := h.trace
    simp
    omega
/-- What an act of the kinds 0 and 1 does; others tell that there is no room. -/
def ringAct (D : Dk) (M : Mp RSt) (x : ActK) : Dk × Mp RSt × Int :=
  if x.kind = 0 then ((ringBegin D M x.key).1, (ringBegin D M x.key).2.1, (ringBegin D M x.key).2.2.2)
  else if x.kind = 1 then ringEnd D M x.key
  else (D, M, 12)
theorem AliveQ.act {D : Dk} {l : List RRow} (h : AliveQ D l) (x : ActK) (hl : l.length ≤ 3000) :
    ∃ l2, AliveQ (ringAct D (ringPuts l) x).1 l2 ∧ (ringAct D (ringPuts l) x).2.1 = ringPuts l2 ∧ l2.length ≤ l.length + 1 ∧ (ringAct D (ringPuts l) x).1.quota = D.quota := by
  have hst := (h.ringOk hl).state x.key
  have hsame : ∃ l2, AliveQ D l2 ∧ ringPuts l = ringPuts l2 ∧ l2.length ≤ l.length + 1 ∧ D.quota = D.quota := ⟨l, h, rfl, by omega, rfl⟩
  unfold ringAct
  split
  · unfold ringBegin
    split
    · exact hsame
    · split
      · exact hsame
      · split
        · exact hsame
        · rename_i h1 h2 h3
          obtain ⟨l2, a1, a2, a3, a4⟩ := h.set x.key ⟨(ringState (ringPuts l) x.key).now + 1, (ringState (ringPuts l) x.key).now⟩ ⟨by simp only; omega, by simp only; omega, by simp only; omega⟩ (by
            intro e
            have := congrArg RSt.now e
            simp at this)
          split
          · exact ⟨l2, a1, a2, a3, a4⟩
          · exact ⟨l2, a1, a2, a3, a4⟩
  · split
    · unfold ringEnd
      split
      · exact hsame
      · split
        · exact hsame
        · rename_i h1 h2
          exact h.set x.key ⟨(ringState (ringPuts l) x.key).now, 0⟩ ⟨by simp only; omega, by simp only; omega, by simp⟩ (by
            intro e
            have := congrArg RSt.old e
            simp at this
            exact h2 this.symm)
    · exact hsame
theorem ringAct_fail {D : Dk} {M : Mp RSt} {x : ActK} (h : (ringAct D M x).2.2 ≠ 0) : (ringAct D M x).2.1 = M := by
  unfold ringAct at *
  split
  · rename_i h1
    rw [if_pos h1] at h
    exact (ringBegin_fail h).1
  · split
    · rename_i h1 h2
      rw [if_neg h1, if_pos h2] at h
      exact ringEnd_fail h
    · rfl
theorem ringAct_full {D : Dk} {M : Mp RSt} {x : ActK} (hq : D.quota ≤ 0) : (ringAct D M x).2.2 ≠ 0 := by
  unfold ringAct
  split
  · exact ringBegin_full hq
  · split
    · exact ringEnd_full hq
    · simp
end Go.Proofs.Ytpkolkgndhagiaa
