/- disk, plainly: files in order, their bytes, and what a disk's history keeps. No program. -/
import Derived.Test.YtcffickkipicbaaGreatDoorDiskP
import Derived.Test.YtcffickkipicbaaGreatDoorStrs
set_option linter.unusedSimpArgs false
set_option linter.unusedVariables false
set_option linter.unnecessarySimpa false
namespace Go.Proofs.YtcffickkipicbaaGreatDoor
open Go.RowKit Go.Maps

def Fs.Sorted (F : Fs) : Prop := F.Pairwise fun p q => bytesBefore p.1 q.1 = true

theorem before_trans {a b c : Bs} (h1 : bytesBefore a b = true) (h2 : bytesBefore b c = true) : bytesBefore a c = true := by
  rw [bytesBefore_eq, decide_eq_true_eq] at *
  exact List.lt_trans h1 h2
theorem before_total {a b : Bs} (h : bytesBefore a b = false) (hne : a ≠ b) : bytesBefore b a = true := by
  rw [bytesBefore_eq, decide_eq_false_iff_not] at h
  rw [bytesBefore_eq, decide_eq_true_eq]
  exact Decidable.byContradiction fun hn => hne (List.le_antisymm (List.not_lt.1 hn) (List.not_lt.1 h))

theorem sorted_ins {x : Bs × Bs} : ∀ {F : Fs}, F.Sorted → (∀ p ∈ F, p.1 ≠ x.1) → (Fs.ins x F).Sorted
  | [], _, _ => by simp [Fs.ins, Fs.Sorted]
  | y :: r, h, hx => by
    unfold Fs.Sorted at h
    rw [List.pairwise_cons] at h
    unfold Fs.ins
    split
    · rename_i hb
      refine List.Pairwise.cons (fun p hp => ?_) (List.Pairwise.cons h.1 h.2)
      rcases List.mem_cons.1 hp with rfl | hp
      · exact hb
      · exact before_trans hb (h.1 p hp)
    · rename_i hb
      refine List.Pairwise.cons (fun p hp => ?_) (sorted_ins h.2 (fun p hp => hx p (by simp [hp])))
      rcases mem_ins.1 hp with rfl | hp
      · exact before_total (by simpa using hb) (fun e => hx y (by simp) e.symm)
      · exact h.1 p hp
theorem Fs.Sorted.del {F : Fs} (h : F.Sorted) (k : Bs) : (F.del k).Sorted := List.Pairwise.filter _ h
theorem Fs.Sorted.put {F : Fs} (h : F.Sorted) (k v : Bs) : (F.put k v).Sorted := sorted_ins (h.del k) (fun _ hp => (mem_del.1 hp).2)
theorem Fs.Sorted.did {F : Fs} (h : F.Sorted) (e : Ev) : (F.did e).Sorted := by
  unfold Fs.did
  split
  · exact h.put _ _
  · split
    · exact h.put _ _
    · split
      · exact (h.del _).put _ _
      · split
        · exact h.del _
        · exact h

theorem bytes_ins (x : Bs × Bs) : ∀ F : Fs, (Fs.ins x F).bytes = x.2.length + F.bytes
  | [] => by simp [Fs.ins, Fs.bytes]
  | y :: r => by
    unfold Fs.ins
    split
    · simp [Fs.bytes]
    · have := bytes_ins x r
      unfold Fs.bytes at *
      simp only [List.map_cons, List.sum_cons]
      omega
theorem del_of_ne {F : Fs} {k : Bs} (h : ∀ p ∈ F, p.1 ≠ k) : F.del k = F := by
  unfold Fs.del
  rw [List.filter_eq_self]
  intro p hp
  simp [h p hp]
theorem bytes_del {F : Fs} (h : F.Sorted) (k : Bs) : (F.del k).bytes + ((F.get k).getD []).length = F.bytes := by
  induction F with
  | nil => simp [Fs.del, Fs.bytes, Fs.get]
  | cons y r ih =>
    have hne := sorted_ne h
    unfold Fs.Sorted at h
    rw [List.pairwise_cons] at h hne
    by_cases hk : (y.1 == k) = true
    · have hk' : y.1 = k := by simpa using hk
      have h1 : Fs.del (y :: r) k = r := by
        have := del_of_ne (F := r) (k := k) (fun p hp e => hne.1 p hp (hk'.trans e.symm))
        unfold Fs.del at *
        rw [List.filter_cons, if_neg (by simp [hk]), this]
      have h2 : Fs.get (y :: r) k = some y.2 := by unfold Fs.get; rw [List.find?_cons_of_pos (by simpa using hk)]; rfl
      rw [h1, h2]
      simp [Fs.bytes]
      omega
    · have h1 : Fs.del (y :: r) k = y :: Fs.del r k := by
        unfold Fs.del
        rw [List.filter_cons, if_pos (by simp [hk])]
      have h2 : Fs.get (y :: r) k = Fs.get r k := by unfold Fs.get; rw [List.find?_cons_of_neg (by simpa using hk)]
      rw [h1, h2]
      have := ih h.2
      unfold Fs.bytes at *
      simp only [List.map_cons, List.sum_cons]
      omega
theorem bytes_put {F : Fs} (h : F.Sorted) (k v : Bs) : (F.put k v).bytes + ((F.get k).getD []).length = F.bytes + v.length := by
  unfold Fs.put
  rw [bytes_ins]
  have := bytes_del h k
  simp only
  omega
theorem has_iff {F : Fs} {k : Bs} : F.has k = true ↔ ∃ p ∈ F, p.1 = k := by
  unfold Fs.has
  rw [List.any_eq_true]
  simp
theorem length_put {F : Fs} (h : F.Sorted) (k v : Bs) : (F.put k v).length = if F.has k then F.length else F.length + 1 := by
  unfold Fs.put
  rw [length_ins]
  induction F with
  | nil => simp [Fs.del, Fs.has]
  | cons y r ih =>
    have hne := sorted_ne h
    unfold Fs.Sorted at h
    rw [List.pairwise_cons] at h hne
    by_cases hk : (y.1 == k) = true
    · have hk' : y.1 = k := by simpa using hk
      have h1 : Fs.del (y :: r) k = r := by
        have := del_of_ne (F := r) (k := k) (fun p hp e => hne.1 p hp (hk'.trans e.symm))
        unfold Fs.del at *
        rw [List.filter_cons, if_neg (by simp [hk]), this]
      have h2 : Fs.has (y :: r) k = true := by simp [Fs.has, hk]
      rw [h1, h2]
      simp
    · have h1 : Fs.del (y :: r) k = y :: Fs.del r k := by
        unfold Fs.del
        rw [List.filter_cons, if_pos (by simp [hk])]
      have h2 : Fs.has (y :: r) k = Fs.has r k := by simp [Fs.has, hk]
      have := ih h.2
      rw [h1, h2, List.length_cons, this]
      split <;> simp

/-- What a step to files may do: each of a disk's files, at each beginning of what isn't sure, is good. -/
structure Hist (Q : Fs → Prop) (D : Dk) : Prop where
  all : ∀ k, Q (D.replay k)
  now : D.now = D.replay D.pend.length

theorem replay_all (D : Dk) {k : Nat} (h : D.pend.length ≤ k) : D.replay k = D.replay D.pend.length := by
  unfold Dk.replay
  rw [List.take_of_length_le h, List.take_of_length_le (Nat.le_refl _)]
theorem replay_snoc (D : Dk) (e : Ev) (k : Nat) (hk : k ≤ D.pend.length) (D2 : Dk) (hs : D2.sure = D.sure) (hp : D2.pend = D.pend ++ [e]) : D2.replay k = D.replay k := by
  unfold Dk.replay
  rw [hs, hp, List.take_append_of_le_length hk]
theorem replay_last (D : Dk) (e : Ev) (D2 : Dk) (hs : D2.sure = D.sure) (hp : D2.pend = D.pend ++ [e]) : D2.replay D2.pend.length = (D.replay D.pend.length).did e := by
  unfold Dk.replay
  rw [List.take_of_length_le (Nat.le_refl _), List.take_of_length_le (Nat.le_refl _), hs, hp, List.foldl_append]
  rfl

theorem Hist.new {Q : Fs → Prop} (h : Q []) : Hist Q Dk.new := ⟨fun k => by simpa [Dk.replay, Dk.new] using h, rfl⟩
theorem Hist.good {Q : Fs → Prop} {D : Dk} (h : Hist Q D) : Q D.now := by rw [h.now]; exact h.all _
theorem Hist.crash {Q : Fs → Prop} {D : Dk} (h : Hist Q D) (n : Int) : Hist Q (D.crash n) := ⟨fun k => by simpa [Dk.replay, Dk.crash] using h.all n.toNat, by simp [Dk.replay, Dk.crash]⟩
theorem Hist.done {Q : Fs → Prop} {D : Dk} (h : Hist Q D) (e : Ev) (hq : e.op ≠ 5 → Q (D.now.did e)) : Hist Q (D.done e).1 := by
  unfold Dk.done
  split
  · exact ⟨h.all, h.now⟩
  · split
    · exact ⟨fun k => by simpa [Dk.replay] using h.good, by simp [Dk.replay]⟩
    · rename_i h5
      have key : ∀ D2 : Dk, D2.sure = D.sure → D2.pend = D.pend ++ [e] → D2.now = D.now.did e → Hist Q D2 := by
        intro D2 h1 h2 h3
        refine ⟨fun k => ?_, ?_⟩
        · by_cases hk : k ≤ D.pend.length
          · rw [replay_snoc D e k hk D2 h1 h2]; exact h.all k
          · rw [replay_all D2 (by rw [h2]; simp; omega), replay_last D e D2 h1 h2, ← h.now]; exact hq h5
        · rw [replay_last D e D2 h1 h2, ← h.now, h3]
      exact key _ rfl rfl rfl
end Go.Proofs.YtcffickkipicbaaGreatDoor
