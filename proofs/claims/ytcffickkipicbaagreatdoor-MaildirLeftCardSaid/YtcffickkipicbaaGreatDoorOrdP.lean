/- MaildirOrder, plainly: a disk that had nothing but deliveries, and the names that were told. No program. -/
import Derived.Test.YtcffickkipicbaaGreatDoorMdQ
import Derived.Test.YtcffickkipicbaaGreatDoorMap
namespace Go.Proofs.YtcffickkipicbaaGreatDoor
open Go.RowKit Go.Maps

theorem names_mem {F : Fs} {pre x : Bs} : x ∈ F.names pre ↔ F.has x = true ∧ pre.isPrefixOf x = true := by
  unfold Fs.names Fs.has
  rw [List.mem_filter, List.mem_map, List.any_eq_true]
  constructor
  · rintro ⟨⟨p, hp, rfl⟩, h⟩
    exact ⟨⟨p, hp, by simp⟩, h⟩
  · rintro ⟨⟨p, hp, he⟩, h⟩
    exact ⟨⟨p, hp, by simpa using he⟩, h⟩
theorem new_pre (s : Bs) : newB.isPrefixOf (newB ++ s) = true := by simp [newB, List.isPrefixOf]
theorem new_drop {x : Bs} (h : newB.isPrefixOf x = true) : x = newB ++ x.drop 4 := by
  obtain ⟨t, rfl⟩ := List.isPrefixOf_iff_prefix.1 h
  rfl
theorem mdNames_mem {F : Fs} {box : Int} {s : Bs} : s ∈ mdNames F box ↔ F.has (newB ++ s) = true ∧ mdPick box s = true := by
  unfold mdNames
  rw [List.mem_filter, List.mem_map]
  constructor
  · rintro ⟨⟨x, hx, rfl⟩, hp⟩
    obtain ⟨h1, h2⟩ := names_mem.1 hx
    rw [← new_drop h2]
    exact ⟨h1, hp⟩
  · rintro ⟨h1, h2⟩
    exact ⟨⟨newB ++ s, names_mem.2 ⟨h1, new_pre s⟩, rfl⟩, h2⟩
theorem fkeys_nodup {F : Fs} (h : F.Sorted) : (F.map (·.1)).Nodup := by
  unfold List.Nodup
  rw [List.pairwise_map]
  exact rising_ne h
theorem names_nodup {F : Fs} (h : F.Sorted) (pre : Bs) : (F.names pre).Nodup := List.Pairwise.filter _ (fkeys_nodup h)
theorem nodup_map_on {α β : Type} {f : α → β} : ∀ {l : List α}, (∀ x ∈ l, ∀ y ∈ l, f x = f y → x = y) → l.Nodup → (l.map f).Nodup
  | [], _, _ => List.Pairwise.nil
  | a :: r, h, hn => by
    obtain ⟨h1, h2⟩ := List.pairwise_cons.1 hn
    refine List.pairwise_cons.2 ⟨fun y hy => ?_, nodup_map_on (fun x hx y hy => h x (by simp [hx]) y (by simp [hy])) h2⟩
    obtain ⟨z, hz, rfl⟩ := List.mem_map.1 hy
    exact fun e => h1 z hz (h a (by simp) z (by simp [hz]) e)
theorem mdNames_nodup {F : Fs} (h : F.Sorted) (box : Int) : (mdNames F box).Nodup := by
  unfold mdNames
  refine List.Pairwise.filter _ (nodup_map_on (fun x hx y hy e => ?_) (names_nodup h newB))
  rw [new_drop (names_pre hx), new_drop (names_pre hy), e]
theorem mdPick_name {b id rc : Nat} (h : mdOk b id rc) (box : Int) : mdPick box (nameB b id rc) = decide ((b : Int) = box) := by
  unfold mdPick
  rw [mdParse_name h]
  rfl
theorem mdNames_is' {F : Fs} {box : Int} {s : Bs} (h : s ∈ mdNames F box) : ∃ id rc : Nat, mdOk (mdParse s).1 id rc ∧ ((mdParse s).1 : Int) = box ∧ mdParse s = ((mdParse s).1, id, rc, true) ∧ s = nameB (mdParse s).1 id rc := by
  have hp := (mdNames_mem.1 h).2
  have hi := mdNames_is h
  obtain ⟨h1, h2⟩ := mdIs_sound hi
  unfold mdPick at hp
  rw [Bool.and_eq_true, decide_eq_true_eq] at hp
  have he : mdParse s = ((mdRead s).1, (mdRead s).2.1, (mdRead s).2.2, true) := by unfold mdParse; rw [if_pos hi]
  rw [he] at hp ⊢
  exact ⟨_, _, h1, hp.2, rfl, h2⟩
/-- Behind i deliveries, box told when it was asked for. -/
structure OrdM (D : Dk) (box : Int) (K : Mp Bool) (i : Nat) : Prop where
  live : Live D
  quota : D.quota = 1048576
  ok : D.Ok (5000 + 1100 * i)
  len : D.now.length ≤ i
  bytes : D.now.bytes ≤ 1000 * i
  sorted : D.now.Sorted
  files : ∀ k, D.now.has k = true → ∃ b id rc : Nat, mdOk b id rc ∧ k = newB ++ nameB b id rc
  want : ∀ s, K.has s = true ↔ (D.now.has (newB ++ s) = true ∧ mdPick box s = true)
  vals : ∀ p ∈ K, p.2 = true
  klen : K.length ≤ i
theorem ord_new (box : Int) : OrdM Dk.new box [] 0 :=
  ⟨⟨rfl, by decide⟩, rfl, ok_new.mono (by decide), by decide, by decide, List.Pairwise.nil, (by intro k h; cases h), (by intro s; exact ⟨fun h => (by cases h), fun h => absurd h.1 (by simp [Dk.new, Fs.has])⟩), (by intro p hp; cases hp), by decide⟩
theorem OrdM.more {D : Dk} {box : Int} {K : Mp Bool} {i : Nat} (h : OrdM D box K i) : OrdM D box K (i + 1) :=
  ⟨h.live, h.quota, h.ok.mono (by omega), by have := h.len; omega, by have := h.bytes; omega, h.sorted, h.files, h.want, h.vals, by have := h.klen; omega⟩
theorem OrdM.step {D D2 : Dk} {box : Int} {K : Mp Bool} {i : Nat} (h : OrdM D box K i) {b id rc : Nat} (hk : mdOk b id rc) (h1 : Live D2) (h2 : D2.quota = 1048576) (h3 : D2.Ok (5000 + 1100 * (i + 1))) (h4 : D2.now.length ≤ i + 1) (h5 : D2.now.bytes ≤ 1000 * (i + 1)) (h6 : D2.now.Sorted)
    (hF : ∀ k, D2.now.has k = (decide (newB ++ nameB b id rc = k) || D.now.has k)) :
    OrdM D2 box (if (b : Int) = box then K.put (nameB b id rc) true else K) (i + 1) := by
  refine ⟨h1, h2, h3, h4, h5, h6, fun k hk2 => ?_, fun s => ?_, fun p hp => ?_, ?_⟩
  · rw [hF, Bool.or_eq_true, decide_eq_true_eq] at hk2
    rcases hk2 with rfl | hk2
    · exact ⟨b, id, rc, hk, rfl⟩
    · exact h.files k hk2
  · rw [hF, Bool.or_eq_true, decide_eq_true_eq]
    have hw := h.want s
    have hp := mdPick_name hk box
    by_cases hs : nameB b id rc = s
    · subst hs
      by_cases hb : (b : Int) = box
      · rw [if_pos hb, Mp.has_put, hp]
        simp [hb]
      · rw [if_neg hb, hw, hp]
        simp [hb]
    · have hne : ¬ newB ++ nameB b id rc = newB ++ s := fun e => hs (List.append_cancel_left e)
      split
      · rw [Mp.has_put, Bool.or_eq_true, decide_eq_true_eq, hw]
        simp [hs, hne]
      · rw [hw]
        simp [hne]
  · split at hp
    · rcases Mp.mem_put.1 hp with rfl | hp
      · rfl
      · exact h.vals p hp.1
    · exact h.vals p hp
  · have := h.klen
    split
    · have := Mp.length_put_le K (nameB b id rc) true
      omega
    · omega
theorem OrdM.next {D : Dk} {box : Int} {K : Mp Bool} {i : Nat} (h : OrdM D box K i) (bx : Int) (id : Nat) (rc : Int) (text : Bs) (hi : i < 40) (ht : text.length ≤ 1000) :
    ∃ D2, mdDeliver D bx id rc text = (D2, (mdName bx id rc).2) ∧ OrdM D2 box (if (mdName bx id rc).2 = 0 ∧ bx = box then K.put (mdName bx id rc).1 true else K) (i + 1) := by
  by_cases hok : mdOk bx id rc
  · obtain ⟨hk, he⟩ := mdName_ok hok
    have hbx : ((bx.toNat : Nat) : Int) = bx := by have := hok.1; omega
    rw [he]
    dsimp only
    have hif : (if (0 : Int) = 0 ∧ bx = box then K.put (nameB bx.toNat id rc.toNat) true else K) = if ((bx.toNat : Nat) : Int) = box then K.put (nameB bx.toNat id rc.toNat) true else K := by
      rw [hbx]; simp
    rw [hif]
    have hl := h.len
    have hb := h.bytes
    cases hn : D.now.has (newB ++ nameB bx.toNat id rc.toNat) with
    | true =>
      refine ⟨D, ?_, h.step hk h.live h.quota (h.ok.mono (by omega)) (by omega) (by omega) h.sorted (fun k => ?_)⟩
      · unfold mdDeliver
        rw [he, if_neg (by simp)]
        dsimp only
        rw [hn]
        rfl
      · by_cases e : newB ++ nameB bx.toNat id rc.toNat = k
        · subst e; simp [hn]
        · simp [e]
    | false =>
      have h0 : D.now.has (tmpB ++ nameB bx.toNat id rc.toNat) = false := by
        cases hh : D.now.has (tmpB ++ nameB bx.toNat id rc.toNat) with
        | false => rfl
        | true =>
          obtain ⟨_, _, _, _, e⟩ := h.files _ hh
          simp [tmpB, newB] at e
      obtain ⟨T, e1, _⟩ := mdDeliver_live h.live (text := text) hok hn h0 (by omega) (by have := h.quota; omega)
      have hO := (mdDeliver_ok h.ok bx id rc text).mono (n := 5000 + 1100 * (i + 1)) (by omega)
      rw [e1] at hO
      have hbp := bytes_put h.sorted (newB ++ nameB bx.toNat id rc.toNat) text
      have hlp := length_put_le D.now (newB ++ nameB bx.toNat id rc.toNat) text
      refine ⟨_, e1, h.step hk ⟨h.live.dead, h.live.fuse⟩ h.quota hO (by dsimp only; omega) (by dsimp only; omega) (h.sorted.put _ _) (fun k => fs_has_put _ _ _ _)⟩
  · have he : mdName bx id rc = ([], 3) := by unfold mdName; rw [if_neg hok]
    rw [he]
    dsimp only
    refine ⟨D, ?_, by simpa using h.more⟩
    unfold mdDeliver
    rw [he, if_pos (by simp)]
theorem OrdM.short {D : Dk} {box : Int} {K : Mp Bool} {i : Nat} (h : OrdM D box K i) : ∀ n ∈ D.now.names newB, n.length ≤ 1000 := fun n hn => by
  obtain ⟨b, id, rc, hk, rfl⟩ := h.files n (names_mem.1 hn).1
  have := nameB_len hk
  simp only [List.length_append, newB, List.length_cons, List.length_nil]
  omega
/-- What the names show: each is one's of the box, and was told. -/
theorem OrdM.each {D : Dk} {box : Int} {K : Mp Bool} {i : Nat} (h : OrdM D box K i) {l : List Bs} (hs : MdSorted (mdNames D.now box) l) {j : Nat} {x : Bs} (hx : l[j]? = some x) :
    ∃ b id rc : Nat, mdParse x = (b, id, rc, true) ∧ (b : Int) = box ∧ x.length ≤ 18 ∧ ((K.get x).map fun v => Value.bool v).getD (.bool false) = .bool true := by
  have hm : x ∈ mdNames D.now box := hs.1.mem_iff.1 (List.mem_of_getElem? hx)
  obtain ⟨id, rc, h1, h2, h3, h4⟩ := mdNames_is' hm
  refine ⟨_, id, rc, h3, h2, by rw [h4]; exact nameB_len h1, ?_⟩
  have hk := (h.want x).2 (mdNames_mem.1 hm)
  rw [Mp.has_eq] at hk
  cases hg : K.get x with
  | none => rw [hg] at hk; cases hk
  | some v =>
    unfold Mp.get at hg
    obtain ⟨p, hp, e⟩ := Option.map_eq_some_iff.1 hg
    rw [← e, h.vals p (List.mem_of_find?_eq_some hp)]
    rfl
theorem OrdM.rise {D : Dk} {box : Int} {K : Mp Bool} {i : Nat} (h : OrdM D box K i) {l : List Bs} (hs : MdSorted (mdNames D.now box) l) {j : Nat} {x y : Bs} (hx : l[j]? = some x) (hy : l[j + 1]? = some y) :
    (mdParse x).2.1 < (mdParse y).2.1 ∨ ((mdParse x).2.1 = (mdParse y).2.1 ∧ (mdParse x).2.2.1 < (mdParse y).2.2.1) := by
  obtain ⟨hj, ex⟩ := List.getElem?_eq_some_iff.1 hx
  obtain ⟨hj1, ey⟩ := List.getElem?_eq_some_iff.1 hy
  have hp := List.pairwise_iff_getElem.1 hs.2 j (j + 1) hj hj1 (by omega)
  have hn := List.pairwise_iff_getElem.1 (hs.1.nodup_iff.2 (mdNames_nodup h.sorted box)) j (j + 1) hj hj1 (by omega)
  rw [ex, ey] at hp hn
  obtain ⟨id, rc, h1, h2, h3, h4⟩ := mdNames_is' (hs.1.mem_iff.1 (List.mem_of_getElem? hx))
  obtain ⟨id', rc', h1', h2', h3', h4'⟩ := mdNames_is' (hs.1.mem_iff.1 (List.mem_of_getElem? hy))
  unfold mdLt mdKey at hp
  rw [decide_eq_false_iff_not] at hp
  rw [h3, h3'] at hp ⊢
  dsimp only at hp ⊢
  by_cases hh : id < id' ∨ (id = id' ∧ rc < rc')
  · exact hh
  · exfalso
    have e1 : id = id' := by omega
    have e2 : rc = rc' := by omega
    have e3 : (mdParse x).1 = (mdParse y).1 := by omega
    apply hn
    rw [h4, h4', e1, e2, e3]
theorem OrdM.count {D : Dk} {box : Int} {K : Mp Bool} {i : Nat} (h : OrdM D box K i) {l : List Bs} (hs : MdSorted (mdNames D.now box) l) (hK : K.Pairwise fun p q => bytesBefore p.1 q.1 = true) : l.length = K.length := by
  have hn : (K.map (·.1)).Nodup := by
    unfold List.Nodup
    rw [List.pairwise_map]
    exact rising_ne hK
  have := ((List.perm_ext_iff_of_nodup (mdNames_nodup h.sorted box) hn).2 fun s => ?_).length_eq
  · rw [hs.1.length_eq, this, List.length_map]
  · rw [mdNames_mem, ← h.want s]
    unfold Mp.has
    rw [List.any_eq_true, List.mem_map]
    constructor
    · rintro ⟨p, hp, e⟩; exact ⟨p, hp, by simpa using e⟩
    · rintro ⟨p, hp, e⟩; exact ⟨p, hp, by simpa using e⟩
end Go.Proofs.YtcffickkipicbaaGreatDoor
