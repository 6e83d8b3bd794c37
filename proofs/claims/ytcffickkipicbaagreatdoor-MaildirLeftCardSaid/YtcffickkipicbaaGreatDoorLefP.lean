/- MaildirLeft, plainly: what Recover takes away from a disk that never fails. No program. -/
import Derived.Test.YtcffickkipicbaaGreatDoorOrdP
namespace Go.Proofs.YtcffickkipicbaaGreatDoor
open Go.RowKit Go.Maps

/-- A disk that never fails, with at most c files that may be. -/
structure LeftI (D : Dk) (c : Nat) : Prop where
  live : Live D
  sorted : D.now.Sorted
  may : ∀ k, D.now.has k = true → may k = true
  len : D.now.length ≤ c
theorem LeftI.more {D : Dk} {c d : Nat} (h : LeftI D c) (hd : c ≤ d) : LeftI D d := ⟨h.live, h.sorted, h.may, by have := h.len; omega⟩
theorem left_new : LeftI Dk.new 0 := ⟨⟨rfl, by decide⟩, List.Pairwise.nil, (by intro k h; cases h), by decide⟩
theorem fs_has_del (F : Fs) (k j : Bs) : (F.del k).has j = (!decide (j = k) && F.has j) := by
  rw [Fs.has_eq, Fs.has_eq, fs_get_del]
  by_cases h : j = k
  · simp [h]
  · simp [h]
theorem LeftI.write {D : Dk} {c : Nat} (h : LeftI D c) (n d : Bs) : LeftI (D.write n d).1 (c + 1) := by
  unfold Dk.write
  split
  · rename_i hm
    split
    · exact h.more (by omega)
    · split
      · exact h.more (by omega)
      · rw [h.live.done _ (by simp)]
        refine ⟨⟨h.live.dead, h.live.fuse⟩, h.sorted.put _ _, fun k hk => ?_, ?_⟩
        · have hk2 : (D.now.put n d).has k = true := hk
          rw [fs_has_put, Bool.or_eq_true, decide_eq_true_eq] at hk2
          rcases hk2 with rfl | hk2
          · exact hm
          · exact h.may k hk2
        · have := length_put_le D.now n d
          have := h.len
          show (D.now.put n d).length ≤ c + 1
          omega
  · exact h.more (by omega)
theorem LeftI.sync {D : Dk} {c : Nat} (h : LeftI D c) : LeftI D.sync.1 c := by
  rw [h.live.sync]
  exact ⟨⟨h.live.dead, h.live.fuse⟩, h.sorted, h.may, h.len⟩
theorem del_len (F : Fs) (k : Bs) : (F.del k).length ≤ F.length := List.length_filter_le _ _
theorem LeftI.rename {D : Dk} {c : Nat} (h : LeftI D c) (n t : Bs) : LeftI (D.rename n t).1 (c + 1) := by
  unfold Dk.rename
  split
  · split
    · rename_i hm
      rw [h.live.done _ (by simp)]
      refine ⟨⟨h.live.dead, h.live.fuse⟩, (h.sorted.del _).put _ _, fun k hk => ?_, ?_⟩
      · have hk2 : ((D.now.del n).put t ((D.now.get n).getD [])).has k = true := hk
        rw [fs_has_put, Bool.or_eq_true, decide_eq_true_eq, fs_has_del, Bool.and_eq_true] at hk2
        rcases hk2 with rfl | hk2
        · exact hm
        · exact h.may k hk2.2
      · have := length_put_le (D.now.del n) t ((D.now.get n).getD [])
        have := del_len D.now n
        have := h.len
        show ((D.now.del n).put t ((D.now.get n).getD [])).length ≤ c + 1
        omega
    · exact h.more (by omega)
  · exact h.more (by omega)
theorem LeftI.deliver {D : Dk} {c : Nat} (h : LeftI D c) (bx : Int) (id : Nat) (rc : Int) (text : Bs) : LeftI (mdDeliver D bx id rc text).1 (c + 2) := by
  unfold mdDeliver
  split
  · exact h.more (by omega)
  · split
    · exact h.more (by omega)
    · have h1 := h.write (tmpB ++ (mdName bx id rc).1) text
      have h2 := h1.sync
      have h3 := h2.rename (tmpB ++ (mdName bx id rc).1) (newB ++ (mdName bx id rc).1)
      have h4 := h3.sync
      unfold mdLay
      split
      · exact h1.more (by omega)
      · split
        · exact h2.more (by omega)
        · split
          · exact h3.more (by omega)
          · exact h4.more (by omega)
theorem mdRemoves_live : ∀ (l : List Bs) (D : Dk) (c : Nat), LeftI D c → l.Nodup → (∀ n ∈ l, D.now.has n = true) →
    ∃ D2, mdRemoves l D = (D2, 0) ∧ LeftI D2 c ∧ D2.now = D.now.filter fun p => !l.contains p.1
  | [], D, c, h, _, _ => ⟨D, rfl, h, (List.filter_eq_self.2 (by simp)).symm⟩
  | n :: r, D, c, h, hn, hh => by
    have hr : D.remove n = ({ D with trace := D.trace ++ [⟨4, n, [], []⟩], now := D.now.del n, pend := D.pend ++ [⟨4, n, [], []⟩] }, 0) := by
      unfold Dk.remove
      rw [if_pos (hh n (by simp)), h.live.done _ (by simp)]
      rfl
    obtain ⟨hn1, hn2⟩ := List.nodup_cons.1 hn
    have h1 : LeftI { D with trace := D.trace ++ [⟨4, n, [], []⟩], now := D.now.del n, pend := D.pend ++ [⟨4, n, [], []⟩] } c := by
      refine ⟨⟨h.live.dead, h.live.fuse⟩, h.sorted.del _, fun k hk => ?_, ?_⟩
      · have hk2 : (D.now.del n).has k = true := hk
        rw [fs_has_del, Bool.and_eq_true] at hk2
        exact h.may k hk2.2
      · have := del_len D.now n
        have := h.len
        show (D.now.del n).length ≤ c
        omega
    obtain ⟨D2, e2, i2, f2⟩ := mdRemoves_live r _ c h1 hn2 (fun x hx => by
      show (D.now.del n).has x = true
      rw [fs_has_del, hh x (by simp [hx])]
      have : x ≠ n := fun e => hn1 (e ▸ hx)
      simp [this])
    refine ⟨D2, ?_, i2, ?_⟩
    · unfold mdRemoves
      rw [hr, if_neg (by simp)]
      exact e2
    · rw [f2]
      show (D.now.del n).filter _ = _
      unfold Fs.del
      rw [List.filter_filter]
      refine List.filter_congr fun p _ => ?_
      rw [List.contains_cons]
      cases (p.1 == n) <;> simp
theorem mdRecover_live {D : Dk} {c : Nat} (h : LeftI D c) :
    ∃ D1, mdRecover D = (D1, 0) ∧ LeftI D1 c ∧ (D1.now = D.now.filter fun p => !tmpB.isPrefixOf p.1) ∧ mdRecover D1 = (D1, 0) := by
  obtain ⟨D2, e2, i2, f2⟩ := mdRemoves_live (D.now.names tmpB) D c h (names_nodup h.sorted tmpB) (fun n hn => (names_mem.1 hn).1)
  have hf : D2.now = D.now.filter fun p => !tmpB.isPrefixOf p.1 := by
    rw [f2]
    refine List.filter_congr fun p hp => ?_
    have : (D.now.names tmpB).contains p.1 = tmpB.isPrefixOf p.1 := by
      rw [Bool.eq_iff_iff, List.contains_iff_mem, names_mem]
      constructor
      · exact fun h => h.2
      · exact fun h => ⟨by unfold Fs.has; rw [List.any_eq_true]; exact ⟨p, hp, by simp⟩, h⟩
    rw [this]
  have again : ∀ D3 : Dk, D3.now = D2.now → mdRecover D3 = (D3, 0) := fun D3 h3 => by
    have hn : D3.now.names tmpB = [] := by
      rw [h3, List.eq_nil_iff_forall_not_mem]
      intro x hx
      have h1 := (names_mem.1 hx).1
      have h2 := (names_mem.1 hx).2
      unfold Fs.has at h1
      obtain ⟨p, hp, e⟩ := List.any_eq_true.1 h1
      rw [hf] at hp
      have := (List.mem_filter.1 hp).2
      rw [beq_iff_eq.1 e, h2] at this
      cases this
    unfold mdRecover
    rw [hn]
    rfl
  unfold mdRecover
  rw [e2, if_neg (by simp)]
  by_cases hn : D.now.names tmpB = []
  · rw [if_pos hn]
    exact ⟨D2, rfl, i2, hf, by have := again D2 rfl; unfold mdRecover at this; exact this⟩
  · rw [if_neg hn]
    have hs := i2.live.sync
    have h4 := i2.sync
    rw [hs] at h4
    refine ⟨_, hs, h4, hf, ?_⟩
    have := again { D2 with trace := D2.trace ++ [⟨5, [], [], []⟩], sure := D2.now, pend := [] } rfl
    unfold mdRecover at this
    exact this
theorem fget_filter (q : Bs → Bool) (k : Bs) : ∀ F : Fs, Fs.get (F.filter fun p => q p.1) k = if q k then F.get k else none
  | [] => by simp [Fs.get]
  | y :: r => by
    have ih := fget_filter q k r
    unfold Fs.get at *
    rw [List.filter_cons, List.find?_cons]
    by_cases hy : y.1 = k
    · have hb : (y.1 == k) = true := by simpa using hy
      rw [hb]
      subst hy
      cases hq : q y.1 with
      | true => rw [if_pos rfl, List.find?_cons]; simp
      | false => rw [hq] at ih; simpa using ih
    · have hb : (y.1 == k) = false := by simpa using hy
      rw [hb]
      split
      · rw [List.find?_cons, hb]; exact ih
      · exact ih
/-- What was told of the first i names, those without tmp/. -/
structure LeftW (F : Fs) (l : List Bs) (K : Mp Bs) (i : Nat) : Prop where
  has : ∀ s, K.has s = true ↔ (s ∈ l.take i ∧ tmpB.isPrefixOf s = false)
  vals : ∀ p ∈ K, p.2 = (F.get p.1).getD []
  len : K.length ≤ i
theorem leftW_new (F : Fs) (l : List Bs) : LeftW F l [] 0 := ⟨fun s => by simp [Mp.has], (by intro p hp; cases hp), by simp⟩
theorem LeftW.skip {F : Fs} {l : List Bs} {K : Mp Bs} {i : Nat} (h : LeftW F l K i) {x : Bs} (hx : l[i]? = some x) (ht : tmpB.isPrefixOf x = true) : LeftW F l K (i + 1) := by
  obtain ⟨hi, ex⟩ := List.getElem?_eq_some_iff.1 hx
  refine ⟨fun s => ?_, h.vals, by have := h.len; omega⟩
  rw [h.has s, List.take_succ_eq_append_getElem hi, ex, List.mem_append, List.mem_singleton]
  constructor
  · exact fun ⟨h1, h2⟩ => ⟨.inl h1, h2⟩
  · rintro ⟨h1 | rfl, h2⟩
    · exact ⟨h1, h2⟩
    · rw [ht] at h2; cases h2
theorem LeftW.put {F : Fs} {l : List Bs} {K : Mp Bs} {i : Nat} (h : LeftW F l K i) {x : Bs} (hx : l[i]? = some x) (ht : tmpB.isPrefixOf x = false) : LeftW F l (K.put x ((F.get x).getD [])) (i + 1) := by
  obtain ⟨hi, ex⟩ := List.getElem?_eq_some_iff.1 hx
  refine ⟨fun s => ?_, fun p hp => ?_, ?_⟩
  · rw [Mp.has_put, Bool.or_eq_true, decide_eq_true_eq, h.has s, List.take_succ_eq_append_getElem hi, ex, List.mem_append, List.mem_singleton]
    constructor
    · rintro (rfl | ⟨h1, h2⟩)
      · exact ⟨.inr rfl, ht⟩
      · exact ⟨.inl h1, h2⟩
    · rintro ⟨h1 | rfl, h2⟩
      · exact .inr ⟨h1, h2⟩
      · exact .inl rfl
  · rcases Mp.mem_put.1 hp with rfl | hp
    · rfl
    · exact h.vals p hp.1
  · have := h.len
    have := Mp.length_put_le K x ((F.get x).getD [])
    omega
theorem LeftW.count {D D1 : Dk} {K : Mp Bs} (h : LeftW D.now (D.now.names []) K (D.now.names []).length) (hf : D1.now = D.now.filter fun p => !tmpB.isPrefixOf p.1) (hs : D1.now.Sorted) (hK : K.Pairwise fun p q => bytesBefore p.1 q.1 = true) : (D1.now.names []).length = K.length := by
  have hn : (K.map (·.1)).Nodup := by
    unfold List.Nodup
    rw [List.pairwise_map]
    exact rising_ne hK
  have := ((List.perm_ext_iff_of_nodup (names_nodup hs []) hn).2 fun s => ?_).length_eq
  · rw [this, List.length_map]
  · have hh : D1.now.has s = (!tmpB.isPrefixOf s && D.now.has s) := by
      rw [Fs.has_eq, Fs.has_eq, hf, fget_filter (fun k => !tmpB.isPrefixOf k)]
      cases tmpB.isPrefixOf s <;> simp
    have hk := h.has s
    rw [List.take_length, names_mem] at hk
    rw [names_mem, hh, List.mem_map]
    have hk2 : K.has s = true ↔ ∃ a ∈ K, a.1 = s := by
      unfold Mp.has
      rw [List.any_eq_true]
      simp
    rw [← hk2, hk]
    simp
    exact And.comm
theorem LeftW.each {D D1 : Dk} {K : Mp Bs} (h : LeftW D.now (D.now.names []) K (D.now.names []).length) (hf : D1.now = D.now.filter fun p => !tmpB.isPrefixOf p.1) {x t : Bs} (hm : (x, t) ∈ K) : (D1.now.get x).getD [] = t ∧ D1.now.has x = true := by
  have hk := (h.has x).1 (by unfold Mp.has; rw [List.any_eq_true]; exact ⟨_, hm, by simp⟩)
  rw [List.take_length, names_mem] at hk
  have hg : D1.now.get x = D.now.get x := by rw [hf, fget_filter (fun k => !tmpB.isPrefixOf k), hk.2]; rfl
  refine ⟨by rw [hg]; exact (h.vals _ hm).symm, ?_⟩
  rw [Fs.has_eq, hg, ← Fs.has_eq]
  exact hk.1.1
theorem LeftI.short {D : Dk} {c : Nat} (h : LeftI D c) (pre : Bs) : ∀ n ∈ D.now.names pre, n.length ≤ 80 := fun n hn => by
  have := h.may n (names_mem.1 hn).1
  unfold Go.Proofs.YtcffickkipicbaaGreatDoor.may at this
  simp only [Bool.and_eq_true, decide_eq_true_eq] at this
  exact this.2
theorem tmp_cut {x : Bs} : tmpB.isPrefixOf x = (decide (4 ≤ x.length) && (x.take 4 == tmpB)) := by
  rw [Bool.eq_iff_iff, List.isPrefixOf_iff_prefix, Bool.and_eq_true, decide_eq_true_eq, beq_iff_eq, List.prefix_iff_eq_take]
  constructor
  · intro h
    have hl := congrArg List.length h
    rw [List.length_take] at hl
    have h4 : tmpB.length = 4 := rfl
    rw [h4] at h hl
    exact ⟨by omega, h.symm⟩
  · exact fun h => h.2.symm
end Go.Proofs.YtcffickkipicbaaGreatDoor
