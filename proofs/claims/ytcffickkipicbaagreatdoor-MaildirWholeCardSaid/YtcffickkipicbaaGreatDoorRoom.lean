/- disk, plainly: how much a disk holds, and what one thing that is done adds. No program. -/
import Derived.Test.YtcffickkipicbaaGreatDoorDiskP
set_option linter.unusedSimpArgs false
set_option linter.unusedVariables false
set_option linter.unnecessarySimpa false
namespace Go.Proofs.YtcffickkipicbaaGreatDoor
open Go.RowKit Go.Maps

theorem bytes_cons (x : Bs × Bs) (F : Fs) : Fs.bytes (x :: F) = x.2.length + Fs.bytes F := by simp [Fs.bytes]
theorem bytes_ins_eq (x : Bs × Bs) : ∀ F : Fs, (Fs.ins x F).bytes = x.2.length + F.bytes
  | [] => by simp [Fs.ins, Fs.bytes]
  | y :: r => by
    unfold Fs.ins
    split
    · simp [Fs.bytes]
    · rw [bytes_cons, bytes_ins_eq x r, bytes_cons]; omega
theorem bytes_del_get (F : Fs) (k : Bs) : (F.del k).bytes + ((F.get k).getD []).length ≤ F.bytes := by
  unfold Fs.del Fs.get
  induction F with
  | nil => simp [Fs.bytes]
  | cons y r ih =>
    have hle : ∀ r : Fs, Fs.bytes (r.filter fun p => !(p.1 == k)) ≤ Fs.bytes r := by
      intro r
      induction r with
      | nil => simp [Fs.bytes]
      | cons z t ih2 =>
        rw [List.filter_cons, bytes_cons]
        split
        · rw [bytes_cons]; omega
        · omega
    have := hle r
    by_cases h : (y.1 == k) = true
    · simp [h, bytes_cons] at *
      omega
    · simp [h, bytes_cons] at *
      omega
theorem bytes_put_le (F : Fs) (k v : Bs) : (F.put k v).bytes ≤ F.bytes + v.length := by
  unfold Fs.put
  rw [bytes_ins_eq]
  have := bytes_del_get F k
  dsimp only
  omega
theorem bytes_did_le (F : Fs) (e : Ev) : (F.did e).bytes ≤ F.bytes + e.data.length := by
  unfold Fs.did
  split
  · exact bytes_put_le _ _ _
  · split
    · unfold Fs.put
      rw [bytes_ins_eq]
      have := bytes_del_get F e.name
      simp only [List.length_append]
      omega
    · split
      · have h1 := bytes_put_le (F.del e.name) e.to ((F.get e.name).getD [])
        have h2 := bytes_del_get F e.name
        omega
      · split
        · have h2 := bytes_del_get F e.name
          omega
        · omega

/-- n bounds what is done, what is pending, and what the files hold. -/
structure Dk.Roomy (D : Dk) (n : Nat) : Prop where
  fuse : D.fuse ≤ 9223372036854775807
  trace : D.trace.length ≤ n
  pend : D.pend.length ≤ n
  now : D.now.length ≤ n
  bytes : D.now.bytes ≤ n
theorem Dk.Roomy.small {D : Dk} {n : Nat} (h : D.Roomy n) (hn : n ≤ 100000000000) : D.Small := by
  have h1 := h.trace; have h2 := h.pend; have h3 := h.now; have h4 := h.bytes
  exact ⟨h.fuse, by omega, by omega, by omega, by omega⟩
theorem Dk.Roomy.mono {D : Dk} {n m : Nat} (h : D.Roomy n) (hn : n ≤ m) : D.Roomy m := by
  have h1 := h.trace; have h2 := h.pend; have h3 := h.now; have h4 := h.bytes
  exact ⟨h.fuse, by omega, by omega, by omega, by omega⟩
theorem Dk.Roomy.done {D : Dk} {n : Nat} (h : D.Roomy n) (e : Ev) : (D.done e).1.Roomy (n + 1 + e.data.length) := by
  have h0 := h.fuse; have h1 := h.trace; have h2 := h.pend; have h3 := h.now; have h4 := h.bytes
  unfold Dk.done
  have hfu : (if 0 < D.fuse then D.fuse - 1 else D.fuse) ≤ 9223372036854775807 := by split <;> omega
  split
  · exact ⟨h0, by simp only; omega, by simp only; omega, by simp only; omega, by simp only; omega⟩
  · split
    · exact ⟨hfu, by simp; omega, by simp, by simp only; omega, by simp only; omega⟩
    · have h5 := length_did_le D.now e
      have h6 := bytes_did_le D.now e
      exact ⟨hfu, by simp; omega, by simp; omega, by simp only; omega, by simp only; omega⟩
theorem Dk.Roomy.sync {D : Dk} {m : Nat} (h : D.Roomy m) : D.sync.1.Roomy (m + 1) := h.done ⟨5, [], [], []⟩
theorem Dk.Roomy.append {D : Dk} {m : Nat} (h : D.Roomy m) (n d : Bs) : (D.append n d).1.Roomy (m + 1 + d.length) := by
  unfold Dk.append
  split
  · split
    · exact h.mono (by omega)
    · exact h.done ⟨2, n, [], d⟩
  · exact h.mono (by omega)
theorem Dk.Roomy.write {D : Dk} {m : Nat} (h : D.Roomy m) (n d : Bs) : (D.write n d).1.Roomy (m + 1 + d.length) := by
  unfold Dk.write
  split
  · split
    · exact h.mono (by omega)
    · split
      · exact h.mono (by omega)
      · exact h.done ⟨1, n, [], d⟩
  · exact h.mono (by omega)
theorem Dk.Roomy.file {D : Dk} {m : Nat} (h : D.Roomy m) (n : Bs) : ((D.now.get n).getD []).length ≤ m := Nat.le_trans (get_le D.now n) h.bytes
end Go.Proofs.YtcffickkipicbaaGreatDoor
