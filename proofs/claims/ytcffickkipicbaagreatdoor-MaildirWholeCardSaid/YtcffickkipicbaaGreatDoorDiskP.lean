/- disk, plainly: bounds on a disk, which what is done to it raises by what is handed in. No program. -/
import Derived.Test.YtcffickkipicbaaGreatDoorDiskL
set_option linter.unusedSimpArgs false
set_option linter.unusedVariables false
set_option linter.unnecessarySimpa false
namespace Go.Proofs.YtcffickkipicbaaGreatDoor
open Go.RowKit Go.Maps

def Fs.Under (F : Fs) (b : Nat) : Prop := ∀ p ∈ F, p.2.length ≤ b
def dataSum (l : List Ev) : Nat := (l.map fun e => e.data.length).sum

theorem mem_ins {x p : Bs × Bs} : ∀ {F : Fs}, p ∈ Fs.ins x F ↔ p = x ∨ p ∈ F
  | [] => by simp [Fs.ins]
  | y :: r => by
    unfold Fs.ins
    split
    · simp
    · simp only [List.mem_cons, mem_ins (F := r)]
      constructor
      · rintro (h | h | h) <;> simp [h]
      · rintro (h | h | h) <;> simp [h]
theorem length_ins (x : Bs × Bs) : ∀ F : Fs, (Fs.ins x F).length = F.length + 1
  | [] => rfl
  | y :: r => by
    unfold Fs.ins
    split
    · rfl
    · simp [length_ins x r]
theorem mem_del {F : Fs} {k : Bs} {p : Bs × Bs} : p ∈ F.del k ↔ p ∈ F ∧ p.1 ≠ k := by simp [Fs.del]
theorem mem_put {F : Fs} {k v : Bs} {p : Bs × Bs} : p ∈ F.put k v ↔ p = (k, v) ∨ (p ∈ F ∧ p.1 ≠ k) := by simp [Fs.put, mem_ins, mem_del]
theorem length_del_le (F : Fs) (k : Bs) : (F.del k).length ≤ F.length := List.length_filter_le _ _
theorem length_put_le (F : Fs) (k v : Bs) : (F.put k v).length ≤ F.length + 1 := by
  unfold Fs.put
  rw [length_ins]
  have := length_del_le F k
  omega
theorem length_did_le (F : Fs) (e : Ev) : (F.did e).length ≤ F.length + 1 := by
  unfold Fs.did
  split
  · exact length_put_le _ _ _
  · split
    · exact length_put_le _ _ _
    · split
      · have h1 := length_put_le (F.del e.name) e.to ((F.get e.name).getD [])
        have h2 := length_del_le F e.name
        omega
      · split
        · have := length_del_le F e.name; omega
        · omega
theorem Fs.Under.get {F : Fs} {b : Nat} (h : F.Under b) (k : Bs) : ((F.get k).getD []).length ≤ b := by
  unfold Fs.get
  cases hf : F.find? fun p => p.1 == k with
  | none => simp
  | some p => exact h p (List.mem_of_find?_eq_some hf)
theorem Fs.Under.mono {F : Fs} {b c : Nat} (h : F.Under b) (hc : b ≤ c) : F.Under c := fun p hp => Nat.le_trans (h p hp) hc
theorem Fs.Under.put {F : Fs} {b : Nat} (h : F.Under b) {k v : Bs} (hv : v.length ≤ b) : (F.put k v).Under b := fun p hp => by
  rcases mem_put.1 hp with rfl | ⟨h1, _⟩
  · exact hv
  · exact h p h1
theorem Fs.Under.del {F : Fs} {b : Nat} (h : F.Under b) (k : Bs) : (F.del k).Under b := fun p hp => h p (mem_del.1 hp).1
theorem Fs.Under.did {F : Fs} {b : Nat} (h : F.Under b) (e : Ev) : (F.did e).Under (b + e.data.length) := by
  have h' := h.mono (c := b + e.data.length) (by omega)
  have hg := h.get e.name
  unfold Fs.did
  split
  · exact h'.put (by omega)
  · split
    · exact h'.put (by rw [List.length_append]; omega)
    · split
      · exact (h'.del _).put (by omega)
      · split
        · exact h'.del _
        · exact h'
theorem bytes_under : ∀ {F : Fs} {b : Nat}, F.Under b → F.bytes ≤ F.length * b
  | [], _, _ => by simp [Fs.bytes]
  | x :: r, b, h => by
    have h1 := bytes_under (F := r) (b := b) (fun p hp => h p (by simp [hp]))
    have h2 := h x (by simp)
    unfold Fs.bytes at *
    simp only [List.map_cons, List.sum_cons, List.length_cons]
    rw [Nat.add_mul, Nat.one_mul]
    omega
theorem replay_succ (D : Dk) (j : Nat) (h : j < D.pend.length) : D.replay (j + 1) = (D.replay j).did D.pend[j] := by
  unfold Dk.replay
  rw [List.take_succ_eq_append_getElem h, List.foldl_append]
  rfl
theorem replay_length (D : Dk) : ∀ j, (D.replay j).length ≤ D.sure.length + min j D.pend.length
  | 0 => by simp [Dk.replay]
  | j + 1 => by
    have ih := replay_length D j
    by_cases h : j < D.pend.length
    · rw [replay_succ D j h]
      have := length_did_le (D.replay j) D.pend[j]
      omega
    · have : D.replay (j + 1) = D.replay j := by unfold Dk.replay; rw [List.take_of_length_le (by omega), List.take_of_length_le (by omega)]
      rw [this]
      omega
theorem replay_under (D : Dk) {b : Nat} (h : D.sure.Under b) : ∀ j, (D.replay j).Under (b + dataSum (D.pend.take j))
  | 0 => by simpa [Dk.replay, dataSum] using h
  | j + 1 => by
    have ih := replay_under D h j
    by_cases hj : j < D.pend.length
    · rw [replay_succ D j hj, List.take_succ_eq_append_getElem hj]
      have := ih.did D.pend[j]
      simp only [dataSum, List.map_append, List.sum_append, List.map_cons, List.map_nil, List.sum_cons, List.sum_nil] at *
      exact this.mono (by omega)
    · have : D.replay (j + 1) = D.replay j := by unfold Dk.replay; rw [List.take_of_length_le (by omega), List.take_of_length_le (by omega)]
      rw [this, List.take_of_length_le (by omega)]
      rw [List.take_of_length_le (by omega)] at ih
      exact ih
theorem dataSum_take (l : List Ev) (j : Nat) : dataSum (l.take j) ≤ dataSum l := by
  have : dataSum l = dataSum (l.take j) + dataSum (l.drop j) := by
    unfold dataSum
    rw [← List.sum_append, ← List.map_append, List.take_append_drop]
  omega

/-- m bounds all that a disk holds. -/
structure Dk.Ok (D : Dk) (m : Nat) : Prop where
  fuse : D.fuse ≤ 9223372036854775807
  trace : D.trace.length ≤ m
  now : D.now.length ≤ m
  sure : D.sure.length + D.pend.length ≤ m
  nowU : D.now.Under m
  sureU : ∃ b, D.sure.Under b ∧ b + dataSum D.pend ≤ m
  pendE : ∀ e ∈ D.pend, (e.op = 1 ∨ e.op = 2 ∨ e.op = 3 ∨ e.op = 4) ∧ e.name.length ≤ m ∧ e.to.length ≤ m

theorem Dk.Ok.mono {D : Dk} {m n : Nat} (h : D.Ok m) (hn : m ≤ n) : D.Ok n := by
  obtain ⟨b, h1, h2⟩ := h.sureU
  refine ⟨h.fuse, Nat.le_trans h.trace hn, Nat.le_trans h.now hn, Nat.le_trans h.sure hn, h.nowU.mono hn, ⟨b, h1, by omega⟩, fun e he => ?_⟩
  have := h.pendE e he
  exact ⟨this.1, by omega, by omega⟩
theorem Dk.Ok.small {D : Dk} {m : Nat} (h : D.Ok m) (hm : m ≤ 900000000) : D.Small := by
  have h1 := h.trace; have h2 := h.now; have h3 := h.sure
  have h4 := bytes_under h.nowU
  have h5 : D.now.length * m ≤ 900000000 * 900000000 := Nat.mul_le_mul (by omega) hm
  exact ⟨h.fuse, by omega, by omega, by omega, by omega⟩
theorem Dk.Ok.crashFit {D : Dk} {m : Nat} (h : D.Ok m) (hm : m ≤ 900000000) : D.CrashFit := by
  have h3 := h.sure
  refine ⟨by omega, fun j hj => ?_⟩
  obtain ⟨b, h1, h2⟩ := h.sureU
  have he := h.pendE D.pend[j] (List.getElem_mem hj)
  have hr := replay_under D h1 j
  have hd := dataSum_take D.pend (j + 1)
  have hl := replay_length D j
  rw [List.take_succ_eq_append_getElem hj] at hd
  simp only [dataSum, List.map_append, List.sum_append, List.map_cons, List.map_nil, List.sum_cons, List.sum_nil] at hd hr h2
  have hg := hr.get D.pend[j].name
  refine ⟨⟨he.1, ?_, ?_, ?_⟩, ?_⟩
  all_goals (unfold maxLen; omega)

theorem ok_new : Dk.new.Ok 0 := ⟨by decide, by decide, by decide, by decide, (by intro p hp; cases hp), ⟨0, (by intro p hp; cases hp), by decide⟩, (by intro e he; cases he)⟩

theorem Dk.Ok.done {D : Dk} {m : Nat} (h : D.Ok m) (e : Ev) (he : e.op = 5 ∨ e.op = 1 ∨ e.op = 2 ∨ e.op = 3 ∨ e.op = 4) : (D.done e).1.Ok (m + 1 + e.name.length + e.to.length + e.data.length) := by
  obtain ⟨b, h1, h2⟩ := h.sureU
  have h' := h.mono (n := m + 1 + e.name.length + e.to.length + e.data.length) (by omega)
  unfold Dk.done
  have hf := h.fuse
  have hfu : (if 0 < D.fuse then D.fuse - 1 else D.fuse) ≤ 9223372036854775807 := by split <;> omega
  split
  · exact ⟨h'.fuse, h'.trace, h'.now, h'.sure, h'.nowU, h'.sureU, h'.pendE⟩
  · have ht := h.trace; have hs := h.sure; have hn := h.now
    split
    · refine ⟨hfu, by simp; omega, h'.now, by simp; omega, h'.nowU, ⟨m, h.nowU, by simp [dataSum]; omega⟩, by intro e he; cases he⟩
    · rename_i h5
      refine ⟨hfu, by simp; omega, ?_, by simp; omega, ?_, ⟨b, h1, ?_⟩, ?_⟩
      · have := length_did_le D.now e; simp only; omega
      · exact (h.nowU.did e).mono (by omega)
      · simp only [dataSum, List.map_append, List.sum_append, List.map_cons, List.map_nil, List.sum_cons, List.sum_nil] at h2 ⊢
        omega
      · intro x hx
        rcases List.mem_append.1 hx with hx | hx
        · exact h'.pendE x hx
        · simp only [List.mem_singleton] at hx
          subst hx
          exact ⟨he.resolve_left h5, by omega, by omega⟩

theorem Dk.Ok.crash {D : Dk} {m : Nat} (h : D.Ok m) (n : Int) : (D.crash n).Ok m := by
  obtain ⟨b, h1, h2⟩ := h.sureU
  have hr := replay_under D h1 n.toNat
  have hd := dataSum_take D.pend n.toNat
  have hl := replay_length D n.toNat
  have hs := h.sure
  have hu : (D.replay n.toNat).Under m := hr.mono (by omega)
  exact ⟨by simp [Dk.crash], h.trace, by simp only [Dk.crash]; omega, by simp only [Dk.crash, List.length_nil]; omega, hu, ⟨m, hu, by simp [Dk.crash, dataSum]⟩, by intro e he; cases he⟩
theorem Dk.Ok.sync {D : Dk} {m : Nat} (h : D.Ok m) : D.sync.1.Ok (m + 1) := h.done ⟨5, [], [], []⟩ (.inl rfl)
theorem Dk.Ok.append {D : Dk} {m : Nat} (h : D.Ok m) (n d : Bs) : (D.append n d).1.Ok (m + 1 + n.length + d.length) := by
  unfold Dk.append
  split
  · split
    · exact h.mono (by omega)
    · exact (h.done ⟨2, n, [], d⟩ (by simp)).mono (by simp)
  · exact h.mono (by omega)
theorem Dk.Ok.write {D : Dk} {m : Nat} (h : D.Ok m) (n d : Bs) : (D.write n d).1.Ok (m + 1 + n.length + d.length) := by
  unfold Dk.write
  split
  · split
    · exact h.mono (by omega)
    · split
      · exact h.mono (by omega)
      · exact (h.done ⟨1, n, [], d⟩ (by simp)).mono (by simp)
  · exact h.mono (by omega)
end Go.Proofs.YtcffickkipicbaaGreatDoor
