/- DiskSure, plainly: the files are what the trace makes of none; what is sure is what its beginning makes. No program. -/
import Derived.Test.YtngbmofocochaaaReplay
namespace Go.Proofs.Ytngbmofocochaaa
open Go.RowKit Go.Maps

def run (l : List Ev) : Fs := l.foldl Fs.did []
theorem run_snoc (l : List Ev) (e : Ev) : run (l ++ [e]) = (run l).did e := by simp [run, List.foldl_append]
theorem run_sorted (l : List Ev) : (run l).Sorted := by
  unfold run
  have : ∀ (l : List Ev) (F : Fs), F.Sorted → (l.foldl Fs.did F).Sorted := by
    intro l
    induction l with
    | nil => intro F h; exact h
    | cons e l ih => intro F h; exact ih _ (h.did e)
  exact this l [] List.Pairwise.nil
theorem run_under : ∀ (l : List Ev) (F : Fs) (b : Nat), F.Under b → (l.foldl Fs.did F).Under (b + dataSum l)
  | [], F, b, h => by simpa [dataSum] using h
  | e :: l, F, b, h => by
    have := run_under l (F.did e) _ (h.did e)
    simp only [dataSum, List.map_cons, List.sum_cons, List.foldl_cons] at *
    exact this.mono (by omega)
theorem run_length : ∀ (l : List Ev) (F : Fs), (l.foldl Fs.did F).length ≤ F.length + l.length
  | [], F => by simp
  | e :: l, F => by
    have h1 := run_length l (F.did e)
    have h2 := length_did_le F e
    simp only [List.foldl_cons, List.length_cons]
    omega

structure SInv (D : Dk) (last m : Nat) : Prop where
  dead : D.dead = false
  fuse : D.fuse < 0
  split : ∃ pre, D.trace = pre ++ D.pend ∧ pre.length = last ∧ D.sure = run pre
  now : D.now = run D.trace
  evs : ∀ e ∈ D.trace, (e.op = 5 ∨ e.op = 1 ∨ e.op = 2 ∨ e.op = 3 ∨ e.op = 4) ∧ e.name.length ≤ 200 ∧ e.to.length ≤ 1000
  sum : dataSum D.trace ≤ 1000 * m
  len : D.trace.length ≤ m

theorem SInv.mono {D : Dk} {last m : Nat} (h : SInv D last m) : SInv D last (m + 1) := ⟨h.dead, h.fuse, h.split, h.now, h.evs, by have := h.sum; omega, by have := h.len; omega⟩
theorem SInv.new : SInv Dk.new 0 0 := ⟨rfl, by decide, ⟨[], rfl, rfl, rfl⟩, rfl, (by intro e he; cases he), by decide, by decide⟩
theorem did_sync (F : Fs) {e : Ev} (h : e.op = 5) : F.did e = F := by
  unfold Fs.did
  rw [if_neg (by omega), if_neg (by omega), if_neg (by omega), if_neg (by omega)]
theorem SInv.done {D : Dk} {last m : Nat} (h : SInv D last m) (e : Ev) (ho : e.op = 5 ∨ e.op = 1 ∨ e.op = 2 ∨ e.op = 3 ∨ e.op = 4) (hn : e.name.length ≤ 200) (ht : e.to.length ≤ 1000) (hd : e.data.length ≤ 1000) :
    (D.done e).2 = 0 ∧ SInv (D.done e).1 (if e.op = 5 then (D.done e).1.trace.length else last) (m + 1) := by
  obtain ⟨pre, h1, h2, h3⟩ := h.split
  have hsum := h.sum; have hlen := h.len; have hf := h.fuse
  have hif : (if 0 < D.fuse then D.fuse - 1 else D.fuse) = D.fuse := if_neg (by omega)
  have hevs : ∀ x ∈ D.trace ++ [e], (x.op = 5 ∨ x.op = 1 ∨ x.op = 2 ∨ x.op = 3 ∨ x.op = 4) ∧ x.name.length ≤ 200 ∧ x.to.length ≤ 1000 := by
    intro x hx
    rcases List.mem_append.1 hx with hx | hx
    · exact h.evs x hx
    · simp only [List.mem_singleton] at hx; subst hx; exact ⟨ho, hn, ht⟩
  have hs2 : dataSum (D.trace ++ [e]) ≤ 1000 * (m + 1) := by
    simp only [dataSum, List.map_append, List.sum_append, List.map_cons, List.map_nil, List.sum_cons, List.sum_nil] at *
    omega
  unfold Dk.done
  rw [if_neg (by simp [h.dead]; omega)]
  by_cases h5 : e.op = 5
  · rw [if_pos h5, if_pos h5]
    refine ⟨rfl, h.dead, by simp only [hif]; exact hf, ⟨D.trace ++ [e], by simp, rfl, ?_⟩, ?_, hevs, hs2, by simp; omega⟩
    · simp only; rw [run_snoc, did_sync _ h5, h.now]
    · simp only; rw [run_snoc, did_sync _ h5, h.now]
  · rw [if_neg h5, if_neg h5]
    refine ⟨rfl, h.dead, by simp only [hif]; exact hf, ⟨pre, by simp [h1], h2, h3⟩, ?_, hevs, hs2, by simp; omega⟩
    simp only; rw [run_snoc, h.now]

theorem SInv.play {D : Dk} {last m : Nat} (h : SInv D last m) (x : Act11) (hl : x.large = false) (hk : x.kind < 5) :
    SInv (D.play x).1 (if (D.play x).2 = 0 ∧ x.kind = 4 then (D.play x).1.trace.length else last) (m + 1) := by
  simp only [Act11.large, Bool.or_eq_false_iff, decide_eq_false_iff_not] at hl
  have fin : ∀ (e : Ev), (e.op = 5 ∨ e.op = 1 ∨ e.op = 2 ∨ e.op = 3 ∨ e.op = 4) → e.op ≠ 5 → x.kind ≠ 4 → e.name.length ≤ 200 → e.to.length ≤ 1000 → e.data.length ≤ 1000 → SInv (D.done e).1 (if (D.done e).2 = 0 ∧ x.kind = 4 then (D.done e).1.trace.length else last) (m + 1) := by
    intro e h1 h2 h3 h4 h5 h6
    have := (h.done e h1 h4 h5 h6).2
    rw [if_neg h2] at this
    rw [if_neg (fun hh => h3 hh.2)]
    exact this
  have hno : ∀ c : Int, x.kind ≠ 4 → SInv (D, c).1 (if (D, c).2 = 0 ∧ x.kind = 4 then (D, c).1.trace.length else last) (m + 1) := by
    intro c h3
    rw [if_neg (fun hh => h3 hh.2)]
    exact h.mono
  unfold Dk.play
  split
  · rename_i hk0
    unfold Dk.write
    split
    · split
      · exact hno _ (by omega)
      · split
        · exact hno _ (by omega)
        · exact fin ⟨1, x.a, [], x.b⟩ (by simp) (by simp) (by omega) (by simp; omega) (by simp) (by simp; omega)
    · exact hno _ (by omega)
  · split
    · unfold Dk.append
      split
      · split
        · exact hno _ (by omega)
        · exact fin ⟨2, x.a, [], x.b⟩ (by simp) (by simp) (by omega) (by simp; omega) (by simp) (by simp; omega)
      · exact hno _ (by omega)
    · split
      · unfold Dk.rename
        split
        · split
          · exact fin ⟨3, x.a, x.b, []⟩ (by simp) (by simp) (by omega) (by simp; omega) (by simp; omega) (by simp)
          · exact hno _ (by omega)
        · exact hno _ (by omega)
      · split
        · unfold Dk.remove
          split
          · exact fin ⟨4, x.a, [], []⟩ (by simp) (by simp) (by omega) (by simp; omega) (by simp) (by simp)
          · exact hno _ (by omega)
        · split
          · rename_i hk4
            obtain ⟨h1, h2⟩ := h.done ⟨5, [], [], []⟩ (by simp) (by simp) (by simp) (by simp)
            unfold Dk.sync
            rw [if_pos ⟨h1, hk4⟩]
            rw [if_pos rfl] at h2
            exact h2
          · rename_i hk4
            rw [if_neg (by omega), if_neg (by omega), if_neg (by omega), if_neg (by omega)]
            exact hno _ hk4

theorem SInv.crash {D : Dk} {last m : Nat} (h : SInv D last m) (n : Int) : last ≤ D.trace.length ∧ (D.crash n).now = run (D.trace.take (last + min n.toNat (D.trace.length - last))) := by
  obtain ⟨pre, h1, h2, h3⟩ := h.split
  have hl : D.trace.length = last + D.pend.length := by rw [h1, List.length_append, h2]
  refine ⟨by omega, ?_⟩
  have e1 : D.trace.take (last + min n.toNat (D.trace.length - last)) = pre ++ D.pend.take n.toNat := by
    rw [h1, List.take_append, List.take_of_length_le (by omega)]
    congr 1
    rw [h2, show last + min n.toNat ((pre ++ D.pend).length - last) - last = min n.toNat D.pend.length by rw [List.length_append]; omega]
    rcases Nat.le_total n.toNat D.pend.length with h4 | h4
    · rw [Nat.min_eq_left h4]
    · rw [Nat.min_eq_right h4, List.take_of_length_le (Nat.le_refl _), List.take_of_length_le h4]
  rw [e1]
  show D.replay n.toNat = _
  unfold Dk.replay run
  rw [List.foldl_append, h3]
  rfl
end Go.Proofs.Ytngbmofocochaaa
