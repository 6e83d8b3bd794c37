/- maildir, plainly: what is delivered to a disk that never fails. No program. -/
import Derived.Test.YtcffickkipicbaaGreatDoorMd8
import Derived.Test.YtcffickkipicbaaGreatDoorHist
namespace Go.Proofs.YtcffickkipicbaaGreatDoor
open Go.RowKit Go.Maps

theorem fs_ins (x : Bs × Bs) : ∀ F : Fs, Fs.ins x F = Mp.ins x F
  | [] => rfl
  | y :: r => by
    unfold Fs.ins Mp.ins
    split
    · rfl
    · rw [fs_ins x r]
theorem fs_put (F : Fs) (k v : Bs) : F.put k v = Mp.put F k v := fs_ins _ _
theorem fs_get_put (F : Fs) (k v j : Bs) : (F.put k v).get j = if k = j then some v else F.get j := by
  rw [fs_put]
  exact Mp.get_put F k v j
theorem fs_get_del (F : Fs) (k j : Bs) : (F.del k).get j = if j = k then none else F.get j := Mp.get_del F k j
theorem fs_has_put (F : Fs) (k v j : Bs) : (F.put k v).has j = (decide (k = j) || F.has j) := by
  rw [fs_put]
  exact Mp.has_put F k v j
theorem filter_ins (q : Bs × Bs → Bool) (x : Bs × Bs) (hx : q x = false) : ∀ F : Fs, (Fs.ins x F).filter q = F.filter q
  | [] => by simp [Fs.ins, hx]
  | y :: r => by
    unfold Fs.ins
    split
    · rw [List.filter_cons, hx]; simp
    · rw [List.filter_cons, List.filter_cons, filter_ins q x hx r]
theorem del_del (F : Fs) (k : Bs) : (F.del k).del k = F.del k := by
  unfold Fs.del
  rw [List.filter_filter]
  refine List.filter_congr fun p _ => ?_
  cases (p.1 == k) <;> rfl
theorem del_put (F : Fs) (k v : Bs) : (F.put k v).del k = F.del k := by
  unfold Fs.put
  conv => lhs; unfold Fs.del
  rw [filter_ins _ _ (by simp)]
  exact del_del F k
theorem del_not {F : Fs} {k : Bs} (h : F.has k = false) : F.del k = F := by
  unfold Fs.del
  rw [List.filter_eq_self]
  intro p hp
  unfold Fs.has at h
  have := List.any_eq_false.1 h p hp
  simpa using this
/-- A disk that is alive, and whose fuse is off. -/
structure Live (D : Dk) : Prop where
  dead : D.dead = false
  fuse : D.fuse < 0
theorem Live.done {D : Dk} (h : Live D) (e : Ev) (h5 : e.op ≠ 5) : D.done e = ({ D with trace := D.trace ++ [e], now := D.now.did e, pend := D.pend ++ [e] }, 0) := by
  have hf := h.fuse
  unfold Dk.done
  rw [if_neg (by simp [h.dead]; omega), if_neg h5, if_neg (by omega)]
theorem Live.sync {D : Dk} (h : Live D) : D.sync = ({ D with trace := D.trace ++ [⟨5, [], [], []⟩], sure := D.now, pend := [] }, 0) := by
  have hf := h.fuse
  unfold Dk.sync Dk.done
  rw [if_neg (by simp [h.dead]; omega), if_pos rfl, if_neg (by omega)]
theorem Live.write {D : Dk} (h : Live D) {n d : Bs} (hm : may n = true) (hc : D.now.has n = true ∨ D.now.length < 200) (hq : ¬ D.quota < (D.now.bytes : Int) - ((D.now.get n).getD []).length + d.length) :
    D.write n d = ({ D with trace := D.trace ++ [⟨1, n, [], d⟩], now := D.now.put n d, pend := D.pend ++ [⟨1, n, [], d⟩] }, 0) := by
  unfold Dk.write
  rw [if_pos hm, if_neg (by rcases hc with hc | hc <;> simp [hc]), if_neg hq, h.done _ (by simp)]
  rfl
theorem Live.rename {D : Dk} (h : Live D) {n t : Bs} (hh : D.now.has n = true) (hm : may t = true) :
    D.rename n t = ({ D with trace := D.trace ++ [⟨3, n, t, []⟩], now := (D.now.del n).put t ((D.now.get n).getD []), pend := D.pend ++ [⟨3, n, t, []⟩] }, 0) := by
  unfold Dk.rename
  rw [if_pos hh, if_pos hm, h.done _ (by simp)]
  rfl
theorem mdLay_live {D : Dk} (h : Live D) {nm text : Bs} (ht : may (tmpB ++ nm) = true) (hn : may (newB ++ nm) = true) (h0 : D.now.has (tmpB ++ nm) = false) (hc : D.now.length < 200) (hq : ¬ D.quota < (D.now.bytes : Int) + text.length) :
    ∃ T, mdLay D nm text = ({ D with trace := T, now := D.now.put (newB ++ nm) text, sure := D.now.put (newB ++ nm) text, pend := [] }, 0) ∧ T.length = D.trace.length + 4 := by
  have hg : D.now.get (tmpB ++ nm) = none := by
    rw [Fs.has_eq] at h0
    cases hh : D.now.get (tmpB ++ nm) with
    | none => rfl
    | some v => rw [hh] at h0; cases h0
  have e1 := h.write (d := text) ht (.inr hc) (by rw [hg]; simpa using hq)
  have hdd := del_put D.now (tmpB ++ nm) text
  rw [del_not h0] at hdd
  have hgg : ((D.now.put (tmpB ++ nm) text).get (tmpB ++ nm)).getD [] = text := by rw [fs_get_put, if_pos rfl]; rfl
  have hhh : (D.now.put (tmpB ++ nm) text).has (tmpB ++ nm) = true := by rw [fs_has_put]; simp
  have e2 := Live.sync (D := { D with trace := D.trace ++ [⟨1, tmpB ++ nm, [], text⟩], now := D.now.put (tmpB ++ nm) text, pend := D.pend ++ [⟨1, tmpB ++ nm, [], text⟩] }) ⟨h.dead, h.fuse⟩
  have e3 := Live.rename (D := { D with trace := D.trace ++ [⟨1, tmpB ++ nm, [], text⟩] ++ [⟨5, [], [], []⟩], now := D.now.put (tmpB ++ nm) text, sure := D.now.put (tmpB ++ nm) text, pend := [] }) ⟨h.dead, h.fuse⟩ hhh hn
  dsimp only at e2 e3
  rw [hdd, hgg] at e3
  have e4 := Live.sync (D := { D with trace := D.trace ++ [⟨1, tmpB ++ nm, [], text⟩] ++ [⟨5, [], [], []⟩] ++ [⟨3, tmpB ++ nm, newB ++ nm, []⟩], now := D.now.put (newB ++ nm) text, sure := D.now.put (tmpB ++ nm) text, pend := [] ++ [⟨3, tmpB ++ nm, newB ++ nm, []⟩] }) ⟨h.dead, h.fuse⟩
  dsimp only at e4
  unfold mdLay
  rw [e1, if_neg (by simp)]
  dsimp only
  rw [e2, if_neg (by simp)]
  dsimp only
  rw [e3, if_neg (by simp)]
  dsimp only
  rw [e4]
  exact ⟨_, rfl, by simp⟩
theorem okChar_dig {c : UInt8} (h : digB c = true) : okChar c = true := by
  have : ∀ n : Fin 256, digB (UInt8.ofNat n.val) = true → okChar (UInt8.ofNat n.val) = true := by decide +kernel
  have h2 := this ⟨c.toNat, c.toNat_lt⟩
  simp only [UInt8.ofNat_toNat] at h2
  exact h2 h
theorem dec_ok (n : Nat) : (Lib.decDigits n).all okChar = true := by
  rw [List.all_eq_true]
  exact fun c hc => okChar_dig (List.all_eq_true.1 (decDigits_dig n) c hc)
theorem may_name {pre : Bs} {box id rc : Nat} (h : mdOk box id rc) (hp : pre.all okChar = true) (hl : pre.length ≤ 4) : may (pre ++ nameB box id rc) = true := by
  have h1 := nameB_len h
  have h2 : (nameB box id rc).all okChar = true := by
    unfold nameB
    simp only [List.all_append, dec_ok, List.all_cons, List.all_nil, Bool.and_true, Bool.true_and]
    decide
  have h3 : (pre ++ nameB box id rc).isEmpty = false := by
    unfold nameB
    simp
  unfold may
  rw [List.all_append, hp, h2, h3]
  simp only [List.length_append]
  simp
  omega
theorem mdName_ok {box : Int} {id : Nat} {rc : Int} (h : mdOk box id rc) : mdOk (box.toNat : Int) id (rc.toNat : Int) ∧ mdName box id rc = (nameB box.toNat id rc.toNat, 0) := by
  refine ⟨?_, by unfold mdName; rw [if_pos h]⟩
  obtain ⟨h0, h1, h2, h3, h4, h5⟩ := h
  exact ⟨by omega, by omega, h2, h3, by omega, by omega⟩
theorem mdDeliver_live {D : Dk} (h : Live D) {box : Int} {id : Nat} {rc : Int} {text : Bs} (hok : mdOk box id rc) (hn : D.now.has (newB ++ nameB box.toNat id rc.toNat) = false) (h0 : D.now.has (tmpB ++ nameB box.toNat id rc.toNat) = false) (hc : D.now.length < 200) (hq : ¬ D.quota < (D.now.bytes : Int) + text.length) :
    ∃ T, mdDeliver D box id rc text = ({ D with trace := T, now := D.now.put (newB ++ nameB box.toNat id rc.toNat) text, sure := D.now.put (newB ++ nameB box.toNat id rc.toNat) text, pend := [] }, 0) ∧ T.length = D.trace.length + 4 := by
  obtain ⟨hk, he⟩ := mdName_ok hok
  unfold mdDeliver
  rw [he, if_neg (by simp)]
  dsimp only
  rw [hn]
  exact mdLay_live h (may_name hk (by decide) (by decide)) (may_name hk (by decide) (by decide)) h0 hc hq
end Go.Proofs.YtcffickkipicbaaGreatDoor
