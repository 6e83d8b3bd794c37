/- disk, plainly: the names of files, which hang on names alone. No program. -/
import Derived.Test.YtngbmofocochaaaHist
import Derived.Test.YtngbmofocochaaaPlay
namespace Go.Proofs.Ytngbmofocochaaa
open Go.RowKit Go.Maps

def Fs.keys (F : Fs) : List Bs := F.map (·.1)
def kins (x : Bs) : List Bs → List Bs
  | [] => [x]
  | y :: r => if bytesBefore x y then x :: y :: r else y :: kins x r
def kdel (K : List Bs) (k : Bs) : List Bs := K.filter fun p => !(p == k)
def kput (K : List Bs) (k : Bs) : List Bs := kins k (kdel K k)
def kdid (K : List Bs) (e : Ev) : List Bs :=
  if e.op = 1 then kput K e.name
  else if e.op = 2 then kput K e.name
  else if e.op = 3 then kput (kdel K e.name) e.to
  else if e.op = 4 then kdel K e.name
  else K
theorem keys_ins (x : Bs × Bs) : ∀ F : Fs, (Fs.ins x F).keys = kins x.1 F.keys
  | [] => rfl
  | y :: r => by
    have ih := keys_ins x r
    unfold Fs.keys at *
    simp only [Fs.ins, List.map_cons, kins]
    split
    · rfl
    · rw [List.map_cons, ih]
theorem keys_del (F : Fs) (k : Bs) : (F.del k).keys = kdel F.keys k := by
  unfold Fs.keys Fs.del kdel
  rw [List.filter_map]
  rfl
theorem keys_put (F : Fs) (k v : Bs) : (F.put k v).keys = kput F.keys k := by
  unfold Fs.put kput
  rw [keys_ins, keys_del]
theorem keys_did (F : Fs) (e : Ev) : (F.did e).keys = kdid F.keys e := by
  unfold Fs.did kdid
  split
  · exact keys_put _ _ _
  · split
    · exact keys_put _ _ _
    · split
      · rw [keys_put, keys_del]
      · split
        · exact keys_del _ _
        · rfl
theorem keys_put_same : ∀ {F : Fs}, F.Sorted → ∀ {k : Bs} (v : Bs), F.has k = true → (F.put k v).keys = F.keys
  | [], _, k, v, h => by simp [Fs.has] at h
  | y :: r, hs, k, v, h => by
    have hne := sorted_ne hs
    unfold Fs.Sorted at hs
    rw [List.pairwise_cons] at hs hne
    by_cases hk : y.1 = k
    · have h1 : Fs.del (y :: r) k = r := by
        have := del_of_ne (F := r) (k := k) (fun p hp e => hne.1 p hp (hk.trans e.symm))
        unfold Fs.del at *
        rw [List.filter_cons, if_neg (by simp [hk]), this]
      unfold Fs.put
      rw [h1, keys_ins]
      cases r with
      | nil => simp [Fs.keys, kins, hk]
      | cons z r =>
        have := hs.1 z (by simp)
        rw [hk] at this
        simp [Fs.keys, kins, this, hk]
    · have hr : Fs.has r k = true := by
        have : (y.1 == k) = false := by simp [hk]
        simpa [Fs.has, this] using h
      have ih := keys_put_same hs.2 v hr
      obtain ⟨z, hz, hzk⟩ := has_iff.1 hr
      have hb : bytesBefore k y.1 = false := by
        cases hb : bytesBefore k y.1 with
        | false => rfl
        | true =>
          have h1 := hs.1 z hz
          rw [hzk] at h1
          have := before_trans hb h1
          rw [before_irr] at this
          cases this
      have h1 : Fs.del (y :: r) k = y :: Fs.del r k := by
        unfold Fs.del
        rw [List.filter_cons, if_pos (by simp [hk])]
      unfold Fs.put at *
      rw [h1]
      simp only [Fs.ins, hb]
      unfold Fs.keys at *
      simp only [Bool.false_eq_true, if_false, List.map_cons, ih]

/-- Names that may be, in order, not too many. -/
def Fs.Named (F : Fs) : Prop := F.Sorted ∧ (∀ k ∈ F.keys, may k = true) ∧ F.keys.length ≤ 200
theorem sorted_keys {F G : Fs} (h : F.Sorted) (hk : G.keys = F.keys) : G.Sorted := by
  unfold Fs.Sorted at *
  have h1 : F.keys.Pairwise fun a b => bytesBefore a b = true := by unfold Fs.keys; rw [List.pairwise_map]; exact h
  rw [← hk] at h1
  unfold Fs.keys at h1
  rw [List.pairwise_map] at h1
  exact h1
theorem Fs.Named.of_keys {F G : Fs} (h : F.Named) (hk : G.keys = F.keys) : G.Named := ⟨sorted_keys h.1 hk, by rw [hk]; exact h.2.1, by rw [hk]; exact h.2.2⟩

structure KHist (D : Dk) : Prop where
  all : ∀ k, (D.replay k).Named
  now : D.now.keys = (D.replay D.pend.length).keys

theorem KHist.good {D : Dk} (h : KHist D) : D.now.Named := (h.all _).of_keys h.now
theorem KHist.new : KHist Dk.new := ⟨fun k => by simp [Dk.replay, Dk.new, Fs.Named, Fs.Sorted, Fs.keys], rfl⟩
theorem KHist.crash {D : Dk} (h : KHist D) (n : Int) : KHist (D.crash n) := ⟨fun k => by simpa [Dk.replay, Dk.crash] using h.all n.toNat, by simp [Dk.replay, Dk.crash]⟩
theorem KHist.same {D D2 : Dk} (h : KHist D) (h1 : D2.now.keys = D.now.keys) (h2 : D2.sure.keys = D.sure.keys) (h3 : D2.pend = D.pend) : KHist D2 := by
  have key : ∀ (l : List Ev) (F G : Fs), F.keys = G.keys → (l.foldl Fs.did F).keys = (l.foldl Fs.did G).keys := by
    intro l
    induction l with
    | nil => intro F G h; exact h
    | cons e l ih => intro F G h; exact ih _ _ (by rw [keys_did, keys_did, h])
  have hr : ∀ k, (D2.replay k).keys = (D.replay k).keys := fun k => by unfold Dk.replay; rw [h3]; exact key _ _ _ h2
  exact ⟨fun k => (h.all k).of_keys (hr k), by rw [h1, hr, h3, h.now]⟩
theorem KHist.done {D : Dk} (h : KHist D) (e : Ev) (hq : e.op ≠ 5 → (D.now.did e).Named) : KHist (D.done e).1 := by
  unfold Dk.done
  split
  · exact ⟨h.all, h.now⟩
  · split
    · exact ⟨fun k => by simpa [Dk.replay] using h.good, by simp [Dk.replay]⟩
    · rename_i h5
      have key : ∀ D2 : Dk, D2.sure = D.sure → D2.pend = D.pend ++ [e] → D2.now = D.now.did e → KHist D2 := by
        intro D2 h1 h2 h3
        have hk : (D2.replay D2.pend.length).keys = (D.now.did e).keys := by rw [replay_last D e D2 h1 h2, keys_did, keys_did, h.now]
        refine ⟨fun k => ?_, ?_⟩
        · by_cases hk2 : k ≤ D.pend.length
          · rw [replay_snoc D e k hk2 D2 h1 h2]; exact h.all k
          · rw [replay_all D2 (by rw [h2]; simp; omega)]; exact (hq h5).of_keys hk
        · rw [h3, hk]
      exact key _ rfl rfl rfl

theorem keys_length (F : Fs) : F.keys.length = F.length := by simp [Fs.keys]
theorem named_put {F : Fs} (h : F.Named) {k : Bs} (v : Bs) (hm : may k = true) (hl : F.has k = true ∨ F.length < 200) : (F.put k v).Named := by
  refine ⟨h.1.put k v, fun x hx => ?_, ?_⟩
  · obtain ⟨p, hp, rfl⟩ := List.mem_map.1 hx
    rcases mem_put.1 hp with rfl | ⟨h1, _⟩
    · exact hm
    · exact h.2.1 _ (List.mem_map.2 ⟨p, h1, rfl⟩)
  · rw [keys_length, length_put h.1]
    have := h.2.2
    rw [keys_length] at this
    split
    · exact this
    · rename_i hh
      rcases hl with hl | hl
      · exact absurd hl hh
      · omega
theorem named_del {F : Fs} (h : F.Named) (k : Bs) : (F.del k).Named := by
  refine ⟨h.1.del k, fun x hx => ?_, ?_⟩
  · obtain ⟨p, hp, rfl⟩ := List.mem_map.1 hx
    exact h.2.1 _ (List.mem_map.2 ⟨p, (mem_del.1 hp).1, rfl⟩)
  · rw [keys_length]
    have := length_del_le F k
    have h2 := h.2.2
    rw [keys_length] at h2
    omega
theorem length_del_has {F : Fs} (h : F.Sorted) {k : Bs} (hk : F.has k = true) : (F.del k).length + 1 = F.length := by
  have := length_put h k []
  unfold Fs.put at this
  rw [length_ins, if_pos hk] at this
  exact this

theorem KHist.play {D : Dk} (h : KHist D) (x : Act11) : KHist (D.play x).1 := by
  have hg := h.good
  unfold Dk.play
  split
  · unfold Dk.write
    split
    · rename_i hm
      split
      · exact h
      · rename_i hc
        split
        · exact h
        · refine h.done ⟨1, x.a, [], x.b⟩ (fun _ => ?_)
          simp only [Fs.did, if_true]
          refine named_put hg _ hm ?_
          simp only [Bool.and_eq_true, Bool.not_eq_true', decide_eq_true_eq] at hc
          cases hh : D.now.has x.a with
          | true => exact .inl rfl
          | false => right; rw [hh] at hc; simp at hc; omega
    · exact h
  · split
    · unfold Dk.append
      split
      · rename_i hh
        split
        · exact h
        · refine h.done ⟨2, x.a, [], x.b⟩ (fun _ => ?_)
          have : (D.now.did ⟨2, x.a, [], x.b⟩) = D.now.put x.a ((D.now.get x.a).getD [] ++ x.b) := by simp [Fs.did]
          rw [this]
          exact hg.of_keys (keys_put_same hg.1 _ hh)
      · exact h
    · split
      · unfold Dk.rename
        split
        · rename_i hh
          split
          · rename_i hm
            refine h.done ⟨3, x.a, x.b, []⟩ (fun _ => ?_)
            have : (D.now.did ⟨3, x.a, x.b, []⟩) = (D.now.del x.a).put x.b ((D.now.get x.a).getD []) := by simp [Fs.did]
            rw [this]
            refine named_put (named_del hg _) _ hm (.inr ?_)
            have h1 := length_del_has hg.1 hh
            have h2 := hg.2.2
            rw [keys_length] at h2
            omega
          · exact h
        · exact h
      · split
        · unfold Dk.remove
          split
          · refine h.done ⟨4, x.a, [], []⟩ (fun _ => ?_)
            have : (D.now.did ⟨4, x.a, [], []⟩) = D.now.del x.a := by simp [Fs.did]
            rw [this]
            exact named_del hg _
          · exact h
        · split
          · exact h.done ⟨5, [], [], []⟩ (fun e => absurd rfl e)
          · split
            · unfold Dk.setFuse
              split
              · exact h
              · exact ⟨h.all, h.now⟩
            · split
              · exact ⟨h.all, h.now⟩
              · split
                · exact h.crash x.n
                · split
                  · unfold Dk.edit
                    split
                    · rename_i hh
                      refine h.same (keys_put_same hg.1 _ hh) ?_ rfl
                      simp only
                      split
                      · rename_i hh2
                        have h0 := h.all 0
                        have : D.replay 0 = D.sure := by simp [Dk.replay]
                        rw [this] at h0
                        exact keys_put_same h0.1 _ hh2
                      · rfl
                    · exact h
                  · exact h
end Go.Proofs.Ytngbmofocochaaa
