/- disk, plainly: a disk with one file that is rows, which are laid behind and made sure one by one. No program. -/
import Derived.Test.YtpkolkgndhagiaaRoom
namespace Go.Proofs.Ytpkolkgndhagiaa
open Go.RowKit Go.Maps

theorem fput_one (k x v : Bs) : Fs.put [(k, x)] k v = [(k, v)] := by simp [Fs.put, Fs.del, Fs.ins]
theorem fget_one (k x : Bs) : Fs.get [(k, x)] k = some x := by simp [Fs.get]
theorem fhas_one (k x : Bs) : Fs.has [(k, x)] k = true := by simp [Fs.has]
theorem fbytes_one (k x : Bs) : Fs.bytes [(k, x)] = x.length := by simp [Fs.bytes]
theorem fdid_lay (k x d : Bs) : Fs.did [(k, x)] ⟨2, k, [], d⟩ = [(k, x ++ d)] := by
  unfold Fs.did
  rw [if_neg (by simp), if_pos rfl, fget_one, fput_one]
  rfl
def layEv (nm : Bs) (r : Bs) : Ev := ⟨2, nm, [], r⟩
/-- The one file nm: the rows l are sure, behind them t, which are not. -/
structure FD (nm : Bs) (D : Dk) (l t : List Bs) : Prop where
  now : D.now = [(nm, (l ++ t).flatten)]
  sure : D.sure = [(nm, l.flatten)]
  pend : D.pend = t.map (layEv nm)
  dead : t ≠ [] → D.dead = true
  fuse : D.fuse ≤ 9223372036854775807
section
variable {nm : Bs} {D : Dk} {l t : List Bs}
theorem FD.quota (h : FD nm D l t) (q : Int) : FD nm { D with quota := q } l t := ⟨h.now, h.sure, h.pend, h.dead, h.fuse⟩
theorem FD.setFuse (h : FD nm D l t) (n : Int) (hn : n ≤ 9223372036854775807) : FD nm (D.setFuse n) l t := by
  unfold Dk.setFuse
  split
  · exact h
  · exact ⟨h.now, h.sure, h.pend, h.dead, by simp only; omega⟩
theorem foldl_lay (nm : Bs) (t : List Bs) : ∀ x : Bs, (t.map (layEv nm)).foldl Fs.did [(nm, x)] = [(nm, x ++ t.flatten)] := by
  induction t with
  | nil => intro x; simp
  | cons p r ih =>
    intro x
    rw [List.map_cons, List.foldl_cons]
    have : Fs.did [(nm, x)] (layEv nm p) = [(nm, x ++ p)] := fdid_lay _ _ _
    rw [this, ih]
    simp
theorem FD.replay (h : FD nm D l t) (k : Nat) : D.replay k = [(nm, (l ++ t.take k).flatten)] := by
  unfold Dk.replay
  rw [h.pend, h.sure, ← List.map_take, foldl_lay, List.flatten_append]
theorem FD.crash (h : FD nm D l t) (n : Int) : FD nm (D.crash n) (l ++ t.take n.toNat) [] := by
  refine ⟨?_, ?_, rfl, by simp, by simp [Dk.crash]⟩
  · simp only [Dk.crash, List.append_nil]; exact h.replay _
  · simp only [Dk.crash]; exact h.replay _
theorem FD.roomy (h : FD nm D l t) {n : Nat} (ht : D.trace.length ≤ n) (hl : (l ++ t).flatten.length + 1 ≤ n) (hp : t.length ≤ n) : D.Roomy n := by
  refine ⟨h.fuse, ht, ?_, ?_, ?_⟩
  · rw [h.pend, List.length_map]; exact hp
  · rw [h.now]; simp; omega
  · rw [h.now, fbytes_one]; omega
theorem FD.crashFit (h : FD nm D l t) (hl : (l ++ t).flatten.length ≤ 1000000000) (ht : t.length ≤ 1000000) (hn : nm.length ≤ 1000) : D.CrashFit := by
  have hp : D.pend.length = t.length := by rw [h.pend, List.length_map]
  refine ⟨by rw [hp]; omega, fun j hj => ?_⟩
  have hj' : j < t.length := by rw [← hp]; exact hj
  have e : D.pend[j] = layEv nm t[j] := by simp only [h.pend, List.getElem_map]
  have h1 : (l ++ t.take (j + 1)).flatten.length ≤ (l ++ t).flatten.length := by
    conv => rhs; rw [← List.take_append_drop (j + 1) t]
    simp only [List.flatten_append, List.length_append]
    omega
  have h2 : (l ++ t.take (j + 1)).flatten.length = (l ++ t.take j).flatten.length + (t[j]).length := by
    rw [List.take_succ_eq_append_getElem hj', ← List.append_assoc, List.flatten_append, List.length_append]
    simp
  rw [e, h.replay]
  refine ⟨⟨by simp [layEv], by simp only [layEv]; unfold maxLen; omega, by simp [layEv], ?_⟩, by simp [maxLen]⟩
  simp only [layEv, fget_one, Option.getD_some]
  unfold maxLen
  omega
end
/-- A row is laid behind, and all is made sure. -/
def addSync (D : Dk) (nm row : Bs) : Dk × Int := if (D.append nm row).2 ≠ 0 then D.append nm row else (D.append nm row).1.sync
theorem addSync_dead {D : Dk} {nm row : Bs} (hd : D.dead = true) : (addSync D nm row).1 = D ∧ (addSync D nm row).2 ≠ 0 := by
  have hdd : ({ D with dead := true } : Dk) = D := by cases D; simp_all
  have ha : ∃ c, c ≠ 0 ∧ D.append nm row = (D, c) := by
    unfold Dk.append
    split
    · split
      · exact ⟨12, by decide, rfl⟩
      · refine ⟨13, by decide, ?_⟩
        unfold Dk.done
        rw [if_pos (by simp [hd]), hdd]
    · exact ⟨10, by decide, rfl⟩
  obtain ⟨c, hc, ha⟩ := ha
  unfold addSync
  rw [ha, if_pos hc]
  exact ⟨rfl, hc⟩
theorem FD.add {nm : Bs} {D : Dk} {l : List Bs} (h : FD nm D l []) (row : Bs) :
    (addSync D nm row = (D, 12) ∧ D.quota < (l.flatten.length + row.length : Nat)) ∨
    ((addSync D nm row).2 = 13 ∧ (addSync D nm row).1.dead = true ∧ (addSync D nm row).1.quota = D.quota ∧ (addSync D nm row).1.trace.length ≤ D.trace.length + 2 ∧ (D.dead = true ∨ 0 ≤ D.fuse) ∧ (FD nm (addSync D nm row).1 l [] ∨ FD nm (addSync D nm row).1 l [row])) ∨
    ((addSync D nm row).2 = 0 ∧ (addSync D nm row).1.dead = false ∧ D.dead = false ∧ (addSync D nm row).1.quota = D.quota ∧ (addSync D nm row).1.trace.length = D.trace.length + 2 ∧ (D.fuse < 0 → (addSync D nm row).1.fuse = D.fuse) ∧ ¬ D.quota < (l.flatten.length + row.length : Nat) ∧ FD nm (addSync D nm row).1 (l ++ [row]) []) := by
  have hn := h.now
  rw [List.append_nil] at hn
  have hf := h.fuse
  have hfu : (if 0 < D.fuse then D.fuse - 1 else D.fuse) ≤ 9223372036854775807 := by split <;> omega
  have hfu2 : (if 0 < (if 0 < D.fuse then D.fuse - 1 else D.fuse) then (if 0 < D.fuse then D.fuse - 1 else D.fuse) - 1 else (if 0 < D.fuse then D.fuse - 1 else D.fuse)) ≤ 9223372036854775807 := by split <;> omega
  by_cases hq : D.quota < (l.flatten.length + row.length : Nat)
  · left
    have ha : D.append nm row = (D, 12) := by
      unfold Dk.append
      rw [hn, fhas_one, fbytes_one, if_pos rfl, if_pos (by push_cast at hq; exact hq)]
    unfold addSync
    rw [ha, if_pos (by simp)]
    exact ⟨rfl, hq⟩
  · right
    have ha : D.append nm row = D.done (layEv nm row) := by
      unfold Dk.append
      rw [hn, fhas_one, fbytes_one, if_pos rfl, if_neg (by push_cast at hq; exact hq)]
      rfl
    unfold addSync
    rw [ha]
    by_cases hd : D.dead = true ∨ D.fuse = 0
    · left
      have e : D.done (layEv nm row) = ({ D with dead := true }, 13) := by
        unfold Dk.done
        rw [if_pos (by simpa using hd)]
      rw [e, if_pos (by simp)]
      refine ⟨rfl, rfl, rfl, by simp, ?_, .inl ⟨h.now, h.sure, h.pend, fun _ => rfl, h.fuse⟩⟩
      rcases hd with hd | hd
      · exact .inl hd
      · exact .inr (by omega)
    · have hd1 : D.dead = false := by cases hh : D.dead with | false => rfl | true => exact absurd (.inl hh) hd
      have hd2 : D.fuse ≠ 0 := fun hh => hd (.inr hh)
      have e : D.done (layEv nm row) = ({ D with fuse := (if 0 < D.fuse then D.fuse - 1 else D.fuse), trace := D.trace ++ [layEv nm row], now := [(nm, l.flatten ++ row)], pend := D.pend ++ [layEv nm row] }, 0) := by
        unfold Dk.done
        rw [if_neg (by simp [hd1, hd2]), if_neg (by simp [layEv]), hn]
        have : Fs.did [(nm, l.flatten)] (layEv nm row) = [(nm, l.flatten ++ row)] := fdid_lay _ _ _
        rw [this]
      rw [e, if_neg (by simp)]
      by_cases hd3 : (if 0 < D.fuse then D.fuse - 1 else D.fuse) = 0
      · left
        have e2 : Dk.sync { D with fuse := (if 0 < D.fuse then D.fuse - 1 else D.fuse), trace := D.trace ++ [layEv nm row], now := [(nm, l.flatten ++ row)], pend := D.pend ++ [layEv nm row] } = ({ D with fuse := (if 0 < D.fuse then D.fuse - 1 else D.fuse), trace := D.trace ++ [layEv nm row], now := [(nm, l.flatten ++ row)], pend := D.pend ++ [layEv nm row], dead := true }, 13) := by
          unfold Dk.sync Dk.done
          rw [if_pos (by simp [hd3])]
        rw [e2]
        refine ⟨rfl, rfl, rfl, by simp, .inr (by split at hd3 <;> omega), .inr ⟨?_, h.sure, ?_, fun _ => rfl, hfu⟩⟩
        · simp
        · simp only [h.pend]; simp
      · right
        have e2 : Dk.sync { D with fuse := (if 0 < D.fuse then D.fuse - 1 else D.fuse), trace := D.trace ++ [layEv nm row], now := [(nm, l.flatten ++ row)], pend := D.pend ++ [layEv nm row] } = ({ D with fuse := (if 0 < (if 0 < D.fuse then D.fuse - 1 else D.fuse) then (if 0 < D.fuse then D.fuse - 1 else D.fuse) - 1 else (if 0 < D.fuse then D.fuse - 1 else D.fuse)), trace := D.trace ++ [layEv nm row] ++ [⟨5, [], [], []⟩], now := [(nm, l.flatten ++ row)], sure := [(nm, l.flatten ++ row)], pend := [] }, 0) := by
          unfold Dk.sync Dk.done
          rw [if_neg (by simp [hd1, hd3]), if_pos rfl]
        rw [e2]
        refine ⟨rfl, hd1, hd1, rfl, by simp, fun hneg => ?_, hq, ⟨?_, ?_, rfl, by simp, hfu2⟩⟩
        · simp only; rw [if_neg (by rw [if_neg (by omega)]; omega), if_neg (by omega)]
        · simp
        · simp
end Go.Proofs.Ytpkolkgndhagiaa
