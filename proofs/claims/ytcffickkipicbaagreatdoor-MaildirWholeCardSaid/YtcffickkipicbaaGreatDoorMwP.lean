/- MaildirWhole, plainly: each message that is there is one that was tried, whole; what was told stays. No program. -/
import Derived.Test.YtcffickkipicbaaGreatDoorR19v
import Derived.Test.YtcffickkipicbaaGreatDoorMrow
/-! MwP -/
set_option linter.unusedSimpArgs false
set_option linter.unusedVariables false
set_option linter.unnecessarySimpa false
namespace Go.Proofs.YtcffickkipicbaaGreatDoor
open Go.RowKit Go.Sort Go.Maps

/-- The texts that were tried under a name. -/
def triedOf (T : Mp MV) (s : Bs) : List Bs := ((T.get s).map (·.2)).getD []
/-- What is true of files: each is a message's, new or under way, whole; what was told is there. -/
structure GF (K : Mp Bs) (T : Mp MV) (F : Fs) : Prop where
  file : ∀ f c, F.get f = some c → (∃ s, f = newB ++ s ∧ c ∈ triedOf T s) ∨ (∃ s, f = tmpB ++ s ∧ c ∈ triedOf T s)
  kept : ∀ p ∈ K, F.get (newB ++ p.1) = some p.2
theorem new_tmp (a b : Bs) : newB ++ a ≠ tmpB ++ b := by
  intro h
  have := congrArg (fun l => l.head?) h
  simp [newB, tmpB] at this
theorem new_inj {a b : Bs} (h : newB ++ a = newB ++ b) : a = b := List.append_cancel_left h
theorem GF.more {K : Mp Bs} {T T2 : Mp MV} {F : Fs} (h : GF K T F) (hT : ∀ s, ∀ c ∈ triedOf T s, c ∈ triedOf T2 s) : GF K T2 F :=
  ⟨fun f c hf => (h.file f c hf).imp (fun ⟨s, h1, h2⟩ => ⟨s, h1, hT s c h2⟩) (fun ⟨s, h1, h2⟩ => ⟨s, h1, hT s c h2⟩), h.kept⟩
theorem GF.lay {K : Mp Bs} {T : Mp MV} {F : Fs} (h : GF K T F) {s t : Bs} (ht : t ∈ triedOf T s) : GF K T (F.put (tmpB ++ s) t) := by
  refine ⟨fun f c hf => ?_, fun p hp => ?_⟩
  · rw [fs_get_put] at hf
    split at hf
    · rename_i he
      cases hf
      exact .inr ⟨s, he.symm, ht⟩
    · exact h.file f c hf
  · rw [fs_get_put, if_neg (fun e => new_tmp _ _ e.symm)]
    exact h.kept p hp
theorem GF.del {K : Mp Bs} {T : Mp MV} {F : Fs} (h : GF K T F) (s : Bs) : GF K T (F.del (tmpB ++ s)) := by
  refine ⟨fun f c hf => ?_, fun p hp => ?_⟩
  · rw [fs_get_del] at hf
    split at hf
    · cases hf
    · exact h.file f c hf
  · rw [fs_get_del, if_neg (new_tmp _ _)]
    exact h.kept p hp
theorem GF.move {K : Mp Bs} {T : Mp MV} {F : Fs} (h : GF K T F) {s t : Bs} (ht : t ∈ triedOf T s) (hk : ∀ p ∈ K, p.1 ≠ s) : GF K T ((F.del (tmpB ++ s)).put (newB ++ s) t) := by
  have h2 := h.del s
  refine ⟨fun f c hf => ?_, fun p hp => ?_⟩
  · rw [fs_get_put] at hf
    split at hf
    · rename_i he
      cases hf
      exact .inl ⟨s, he.symm, ht⟩
    · exact h2.file f c hf
  · rw [fs_get_put, if_neg (fun e => hk p hp (new_inj e).symm)]
    exact h2.kept p hp
/-- What is true behind each act. -/
structure WInv (D : Dk) (K : Mp Bs) (T : Mp MV) : Prop where
  hist : Hist (GF K T) D
  live : D.dead = false → ∀ k s, (D.replay k).get (newB ++ s) = D.now.get (newB ++ s)
theorem WInv.more {D : Dk} {K : Mp Bs} {T T2 : Mp MV} (h : WInv D K T) (hT : ∀ s, ∀ c ∈ triedOf T s, c ∈ triedOf T2 s) : WInv D K T2 := ⟨h.hist.imp fun _ q => q.more hT, h.live⟩
theorem WInv.crash {D : Dk} {K : Mp Bs} {T : Mp MV} (h : WInv D K T) (n : Int) : WInv (D.crash n) K T := ⟨h.hist.crash n, fun _ k s => by simp [Dk.replay, Dk.crash]⟩
theorem WInv.quota {D : Dk} {K : Mp Bs} {T : Mp MV} (h : WInv D K T) (q : Int) : WInv { D with quota := q } K T := ⟨⟨h.hist.all, h.hist.now⟩, h.live⟩
theorem WInv.fuse {D : Dk} {K : Mp Bs} {T : Mp MV} (h : WInv D K T) (n : Int) : WInv (D.setFuse n) K T := by
  unfold Dk.setFuse
  split
  · exact h
  · exact ⟨⟨h.hist.all, h.hist.now⟩, h.live⟩
/-- What is done and leaves the new files as they are. -/
theorem WInv.done {D : Dk} {K : Mp Bs} {T : Mp MV} (h : WInv D K T) (e : Ev) (hg : e.op ≠ 5 → GF K T (D.now.did e)) (hn : e.op ≠ 5 → ∀ s, (D.now.did e).get (newB ++ s) = D.now.get (newB ++ s)) : WInv (D.done e).1 K T := by
  refine ⟨h.hist.done e hg, ?_⟩
  unfold Dk.done
  split
  · intro hd
    cases hd
  · rename_i hdd
    have hd0 : D.dead = false := by cases hh : D.dead <;> simp_all
    split
    · intro _ k s
      simp [Dk.replay]
    · rename_i h5
      intro _ k s
      have hl := h.live hd0
      by_cases hk : k ≤ D.pend.length
      · have e1 := replay_snoc D e k hk ({ D with fuse := (if 0 < D.fuse then D.fuse - 1 else D.fuse), trace := D.trace ++ [e], now := D.now.did e, pend := D.pend ++ [e] }) rfl rfl
        rw [e1, hl k s]
        exact (hn h5 s).symm
      · have e1 := replay_all ({ D with fuse := (if 0 < D.fuse then D.fuse - 1 else D.fuse), trace := D.trace ++ [e], now := D.now.did e, pend := D.pend ++ [e] }) (k := k) (by simp; omega)
        have e2 := replay_last D e ({ D with fuse := (if 0 < D.fuse then D.fuse - 1 else D.fuse), trace := D.trace ++ [e], now := D.now.did e, pend := D.pend ++ [e] }) rfl rfl
        rw [e1, e2, ← h.hist.now]
theorem WInv.sync {D : Dk} {K : Mp Bs} {T : Mp MV} (h : WInv D K T) : WInv D.sync.1 K T := h.done _ (fun h => absurd rfl h) (fun h => absurd rfl h)
theorem WInv.removeT {D : Dk} {K : Mp Bs} {T : Mp MV} (h : WInv D K T) (s : Bs) : WInv (D.remove (tmpB ++ s)).1 K T := by
  unfold Dk.remove
  split
  · exact h.done _ (fun _ => h.hist.good.del s) fun _ j => by
      show (D.now.del (tmpB ++ s)).get (newB ++ j) = _
      rw [fs_get_del, if_neg (new_tmp _ _)]
  · exact h
theorem WInv.writeT {D : Dk} {K : Mp Bs} {T : Mp MV} (h : WInv D K T) {s t : Bs} (ht : t ∈ triedOf T s) : WInv (D.write (tmpB ++ s) t).1 K T := by
  unfold Dk.write
  split
  · split
    · exact h
    · split
      · exact h
      · exact h.done _ (fun _ => h.hist.good.lay ht) fun _ j => by
          show (D.now.put (tmpB ++ s) t).get (newB ++ j) = _
          rw [fs_get_put, if_neg (fun e => new_tmp _ _ e.symm)]
  · exact h
theorem WInv.new : WInv Dk.new [] [] := ⟨Hist.new ⟨fun f c h => (by cases h), fun p hp => (by cases hp)⟩, fun _ k s => by simp [Dk.replay, Dk.new]⟩
theorem tmp_drop {f : Bs} (h : tmpB.isPrefixOf f = true) : ∃ s, f = tmpB ++ s := by
  obtain ⟨s, hs⟩ := List.isPrefixOf_iff_prefix.1 h
  exact ⟨s, hs.symm⟩
theorem WInv.removes {K : Mp Bs} {T : Mp MV} : ∀ (l : List Bs) (D : Dk), WInv D K T → (∀ f ∈ l, tmpB.isPrefixOf f = true) → WInv (mdRemoves l D).1 K T
  | [], D, h, _ => h
  | f :: r, D, h, hn => by
    obtain ⟨s, rfl⟩ := tmp_drop (hn f (by simp))
    have h1 := h.removeT s
    unfold mdRemoves
    split
    · exact h1
    · exact WInv.removes r _ h1 fun x hx => hn x (by simp [hx])
theorem WInv.recover {D : Dk} {K : Mp Bs} {T : Mp MV} (h : WInv D K T) : WInv (mdRecover D).1 K T := by
  have h1 := WInv.removes (D.now.names tmpB) D h (fun f hf => names_pre hf)
  unfold mdRecover
  split
  · exact h1
  · split
    · exact h1
    · exact h1.sync
theorem WInv.ofSync {D : Dk} {K : Mp Bs} {T : Mp MV} (h : Hist (GF K T) D) : WInv D.sync.1 K T := by
  refine ⟨h.done _ (fun h => absurd rfl h), ?_⟩
  unfold Dk.sync Dk.done
  split
  · intro hd
    cases hd
  · rw [if_pos rfl]
    intro _ k s
    simp [Dk.replay]
theorem WInv.keep {D : Dk} {K : Mp Bs} {T : Mp MV} (h : WInv D K T) (hd : D.dead = false) {s : Bs} (hh : D.now.has (newB ++ s) = true) : WInv D (K.put s ((D.now.get (newB ++ s)).getD [])) T := by
  refine ⟨⟨fun k => ?_, h.hist.now⟩, h.live⟩
  refine ⟨(h.hist.all k).file, fun p hp => ?_⟩
  rcases Mp.mem_put.1 hp with rfl | ⟨h1, _⟩
  · dsimp only
    rw [h.live hd k s]
    rw [Fs.has_eq] at hh
    cases hg : D.now.get (newB ++ s) with
    | none => rw [hg] at hh; cases hh
    | some c => rfl
  · exact (h.hist.all k).kept p h1
theorem tmp_tried {K : Mp Bs} {T : Mp MV} {F : Fs} (h : GF K T F) {s : Bs} (hh : F.has (tmpB ++ s) = true) : (F.get (tmpB ++ s)).getD [] ∈ triedOf T s := by
  rw [Fs.has_eq] at hh
  cases hg : F.get (tmpB ++ s) with
  | none => rw [hg] at hh; cases hh
  | some c =>
    rcases h.file _ c hg with ⟨j, h1, h2⟩ | ⟨j, h1, h2⟩
    · exact absurd h1.symm (new_tmp _ _)
    · rw [List.append_cancel_left h1]
      exact h2
theorem done_zero {D : Dk} {e : Ev} (h : (D.done e).2 = 0) (h5 : e.op ≠ 5) : (D.done e).1.now = D.now.did e := by
  unfold Dk.done at h ⊢
  split at h
  · cases h
  · rename_i hd
    rw [if_neg hd, if_neg h5]
theorem done_not {D : Dk} {e : Ev} (h : (D.done e).2 ≠ 0) : (D.done e).1 = { D with dead := true } := by
  unfold Dk.done at h ⊢
  split
  · rfl
  · rename_i hd
    rw [if_neg hd] at h
    split at h <;> exact absurd rfl h
theorem rename_w {D : Dk} {K : Mp Bs} {T : Mp MV} (h : WInv D K T) {s : Bs} (hk : ∀ p ∈ K, p.1 ≠ s) : Hist (GF K T) (D.rename (tmpB ++ s) (newB ++ s)).1 ∧ ((D.rename (tmpB ++ s) (newB ++ s)).2 ≠ 0 → WInv (D.rename (tmpB ++ s) (newB ++ s)).1 K T) ∧ ((D.rename (tmpB ++ s) (newB ++ s)).2 = 0 → (D.rename (tmpB ++ s) (newB ++ s)).1.now.has (newB ++ s) = true) := by
  unfold Dk.rename
  split
  · rename_i hh
    split
    · refine ⟨h.hist.done _ fun _ => ?_, fun h2 => ?_, fun h2 => ?_⟩
      · exact h.hist.good.move (tmp_tried h.hist.good hh) hk
      · rw [done_not h2]
        exact ⟨⟨h.hist.all, h.hist.now⟩, fun hd => by cases hd⟩
      · rw [done_zero h2 (by simp)]
        show ((D.now.del (tmpB ++ s)).put (newB ++ s) _).has (newB ++ s) = true
        rw [Fs.has_eq, fs_get_put, if_pos rfl]
        rfl
    · exact ⟨h.hist, fun _ => h, fun h2 => by cases h2⟩
  · exact ⟨h.hist, fun _ => h, fun h2 => by cases h2⟩
theorem sync_now (D : Dk) : D.sync.1.now = D.now := by
  unfold Dk.sync Dk.done
  split
  · rfl
  · rw [if_pos rfl]
theorem write_new (D : Dk) (s t j : Bs) : (D.write (tmpB ++ s) t).1.now.get (newB ++ j) = D.now.get (newB ++ j) := by
  have key : ∀ e : Ev, e = ⟨1, tmpB ++ s, [], t⟩ → (D.done e).1.now.get (newB ++ j) = D.now.get (newB ++ j) := by
    intro e he
    subst he
    unfold Dk.done
    split
    · rfl
    · rw [if_neg (by simp)]
      show (D.now.put (tmpB ++ s) t).get (newB ++ j) = _
      rw [fs_get_put, if_neg (fun e => new_tmp _ _ e.symm)]
  unfold Dk.write
  split
  · split
    · rfl
    · split
      · rfl
      · exact key _ rfl
  · rfl
theorem WInv.lay {D : Dk} {K : Mp Bs} {T : Mp MV} (h : WInv D K T) {s t : Bs} (ht : t ∈ triedOf T s) (hn : D.now.has (newB ++ s) = false) : WInv (mdLay D s t).1 K T ∧ ((mdLay D s t).2 = 0 → (mdLay D s t).1.now.has (newB ++ s) = true) := by
  have h1 := h.writeT ht
  have h2 := h1.sync
  have hk : ∀ p ∈ K, p.1 ≠ s := fun p hp e => by
    have := h.hist.good.kept p hp
    rw [Fs.has_eq, ← e, this] at hn
    cases hn
  obtain ⟨r1, r2, r3⟩ := rename_w h2 hk
  unfold mdLay
  split
  · rename_i e; exact ⟨h1, fun h0 => absurd h0 e⟩
  · split
    · rename_i e; exact ⟨h2, fun h0 => absurd h0 e⟩
    · split
      · rename_i e; exact ⟨r2 e, fun h0 => absurd h0 e⟩
      · rename_i e
        refine ⟨WInv.ofSync r1, fun _ => ?_⟩
        rw [sync_now]
        exact r3 (Decidable.not_not.1 e)
theorem WInv.deliver {D : Dk} {K : Mp Bs} {T : Mp MV} (h : WInv D K T) {box : Int} {id : Nat} {rc : Int} {t : Bs} (he : (mdName box id rc).2 = 0) (ht : t ∈ triedOf T (mdName box id rc).1) : WInv (mdDeliver D box id rc t).1 K T ∧ ((mdDeliver D box id rc t).2 = 0 → (mdDeliver D box id rc t).1.dead = false → WInv (mdDeliver D box id rc t).1 (K.put (mdName box id rc).1 (((mdDeliver D box id rc t).1.now.get (newB ++ (mdName box id rc).1)).getD [])) T) := by
  unfold mdDeliver
  rw [if_neg (by rw [he]; simp)]
  split
  · rename_i hh
    exact ⟨h, fun _ hd => h.keep hd hh⟩
  · rename_i hh
    obtain ⟨h1, h2⟩ := h.lay ht (by simpa using hh)
    exact ⟨h1, fun h0 hd => h1.keep hd (h2 h0)⟩
end Go.Proofs.YtcffickkipicbaaGreatDoor
