/- DiskAll, plainly: what is edited then stays. No program. -/
import Derived.Test.YtngbmofocochaaaSure
namespace Go.Proofs.Ytngbmofocochaaa
open Go.RowKit Go.Maps Go.Sort

theorem hist_play {D : Dk} (h : Hist Fs.Sorted D) (x : Act11) (h8 : x.kind ≠ 8) : Hist Fs.Sorted (D.play x).1 := by
  have hd : ∀ e : Ev, Hist Fs.Sorted (D.done e).1 := fun e => h.done e (fun _ => h.good.did e)
  unfold Dk.play
  split
  · unfold Dk.write
    split
    · split
      · exact h
      · split
        · exact h
        · exact hd _
    · exact h
  · split
    · unfold Dk.append
      split
      · split
        · exact h
        · exact hd _
      · exact h
    · split
      · unfold Dk.rename
        split
        · split
          · exact hd _
          · exact h
        · exact h
      · split
        · unfold Dk.remove
          split
          · exact hd _
          · exact h
        · split
          · exact hd _
          · split
            · unfold Dk.setFuse
              split
              · exact h
              · exact ⟨h.all, h.now⟩
            · split
              · exact ⟨h.all, h.now⟩
              · split
                · exact h.crash x.n
                · exact h

/-- F, of whose first q files each second one is edited. -/
def editOne (data : Bs) (q i : Nat) (p : Bs × Bs) : Bs × Bs := if i < q ∧ i % 2 = 1 then (p.1, data) else p
def edits (F : Fs) (data : Bs) (q : Nat) : Fs := F.mapIdx (editOne data q)
theorem edits_length (F : Fs) (data : Bs) (q : Nat) : (edits F data q).length = F.length := by simp [edits]
theorem edits_at (F : Fs) (data : Bs) (q i : Nat) (h : i < F.length) : (edits F data q)[i]? = some (editOne data q i F[i]) := by
  unfold edits
  rw [List.getElem?_mapIdx, List.getElem?_eq_getElem h]
  rfl
theorem edits_zero (F : Fs) (data : Bs) : edits F data 0 = F := by
  refine List.ext_getElem? fun i => ?_
  by_cases h : i < F.length
  · rw [edits_at F data 0 i h, List.getElem?_eq_getElem h]
    simp [editOne]
  · rw [List.getElem?_eq_none (by rw [edits_length]; omega), List.getElem?_eq_none (by omega)]
theorem editOne_fst (data : Bs) (q i : Nat) (p : Bs × Bs) : (editOne data q i p).1 = p.1 := by unfold editOne; split <;> rfl
theorem edits_keys (F : Fs) (data : Bs) (q : Nat) : (edits F data q).keys = F.keys := by
  unfold Fs.keys
  refine List.ext_getElem? fun i => ?_
  rw [List.getElem?_map, List.getElem?_map]
  by_cases h : i < F.length
  · rw [edits_at F data q i h, List.getElem?_eq_getElem h]
    simp [editOne_fst]
  · rw [List.getElem?_eq_none (by rw [edits_length]; omega), List.getElem?_eq_none (by omega)]
theorem edits_sorted {F : Fs} (h : F.Sorted) (data : Bs) (q : Nat) : (edits F data q).Sorted := sorted_keys h (edits_keys F data q)
theorem edits_even (F : Fs) (data : Bs) (q : Nat) (h : q % 2 ≠ 1) : edits F data (q + 1) = edits F data q := by
  unfold edits
  congr 1
  funext i p
  unfold editOne
  by_cases hi : i % 2 = 1
  · by_cases hq : i < q
    · rw [if_pos ⟨by omega, hi⟩, if_pos ⟨hq, hi⟩]
    · rw [if_neg (fun hh => hq (by have := hh.1; by_cases e : i = q; · exact absurd (e ▸ hi) h
                                   · omega)), if_neg (fun hh => hq hh.1)]
  · rw [if_neg (fun hh => hi hh.2), if_neg (fun hh => hi hh.2)]
theorem key_at (F : Fs) (i : Nat) (h : i < F.keys.length) : F.keys[i] = (F[i]'(by simpa [Fs.keys] using h)).1 := by simp [Fs.keys]
theorem get_at {F : Fs} (hs : F.Sorted) (i : Nat) (h : i < F.length) : F.get F[i].1 = some F[i].2 := mem_get hs (List.getElem_mem h)
theorem key_inj {F : Fs} (hs : F.Sorted) {i j : Nat} (hi : i < F.length) (hj : j < F.length) (h : F[i].1 = F[j].1) : i = j := by
  have hne := sorted_ne hs
  rcases Nat.lt_trichotomy i j with h1 | h1 | h1
  · exact absurd h (List.pairwise_iff_getElem.1 hne i j hi hj h1)
  · exact h1
  · exact absurd h.symm (List.pairwise_iff_getElem.1 hne j i hj hi h1)
theorem edits_get {F : Fs} (hs : F.Sorted) (data : Bs) (q i : Nat) (h : i < F.length) : (edits F data q).get F[i].1 = some (editOne data q i F[i]).2 := by
  have h1 := edits_at F data q i h
  have hl : i < (edits F data q).length := by rw [edits_length]; exact h
  rw [List.getElem?_eq_getElem hl] at h1
  have h2 := get_at (edits_sorted hs data q) i hl
  rw [Option.some.inj h1, editOne_fst] at h2
  exact h2
theorem edits_odd {F : Fs} (hs : F.Sorted) (data : Bs) (q : Nat) (hq : q < F.length) (h : q % 2 = 1) : (edits F data q).put F[q].1 data = edits F data (q + 1) := by
  have hsq := edits_sorted hs data q
  have hhas : (edits F data q).has F[q].1 = true := keys_has.2 (by rw [edits_keys]; exact List.mem_map.2 ⟨_, List.getElem_mem hq, rfl⟩)
  refine files_ext (hsq.put _ _) (edits_sorted hs data (q + 1)) ?_ ?_
  · rw [keys_put_same hsq _ hhas, edits_keys, edits_keys]
  · intro k hk
    rw [keys_put_same hsq _ hhas, edits_keys] at hk
    obtain ⟨p, hp, rfl⟩ := List.mem_map.1 hk
    obtain ⟨i, hi, rfl⟩ := List.mem_iff_getElem.1 hp
    rw [edits_get hs data (q + 1) i hi]
    by_cases hiq : i = q
    · subst hiq
      rw [get_put_same hsq]
      unfold editOne
      rw [if_pos ⟨by omega, h⟩]
    · rw [get_put_other hsq _ (fun e => hiq (key_inj hs hi hq e)), edits_get hs data q i hi]
      congr 2
      unfold editOne
      by_cases h1 : i < q ∧ i % 2 = 1
      · rw [if_pos h1, if_pos ⟨by omega, h1.2⟩]
      · rw [if_neg h1, if_neg (fun hh => h1 ⟨by omega, hh.2⟩)]

def vals (F : Fs) : List Bs := F.map (·.2)
theorem vals_length (F : Fs) : (vals F).length = F.length := by simp [vals]
theorem vals_odd (F : Fs) (data : Bs) (q : Nat) (hq : q < F.length) (h : q % 2 = 1) : (vals (edits F data q)).set q data = vals (edits F data (q + 1)) := by
  refine List.ext_getElem? fun i => ?_
  unfold vals
  rw [List.getElem?_set]
  by_cases hi : i < F.length
  · rw [List.getElem?_map, List.getElem?_map, edits_at F data q i hi, edits_at F data (q + 1) i hi]
    by_cases hiq : q = i
    · subst hiq
      rw [if_pos rfl, if_pos (by rw [List.length_map, edits_length]; exact hq)]
      unfold editOne
      rw [if_pos ⟨by omega, h⟩]
      rfl
    · rw [if_neg hiq]
      unfold editOne
      by_cases h1 : i < q ∧ i % 2 = 1
      · rw [if_pos h1, if_pos ⟨by omega, h1.2⟩]
      · rw [if_neg h1, if_neg (fun hh => h1 ⟨by omega, hh.2⟩)]
  · rw [if_neg (by omega), List.getElem?_eq_none (by rw [List.length_map, edits_length]; omega), List.getElem?_eq_none (by rw [List.length_map, edits_length]; omega)]
theorem vals_get {F : Fs} (hs : F.Sorted) (i : Nat) (hk : i < F.keys.length) : ∃ h2 : i < (vals F).length, (F.get F.keys[i]).getD [] = (vals F)[i]'h2 := by
  have hi : i < F.length := by simpa [Fs.keys] using hk
  refine ⟨by rw [vals_length]; exact hi, ?_⟩
  rw [key_at F i hk, get_at hs i hi]
  simp [vals]

/-- A cell of a slice of strings is written. -/
theorem Strs.set {w : World} {g n cap : Nat} {l : List Bs} (h : Strs w (.slice (some ⟨g, 0, none⟩) n cap) l) (i : Nat) (x : Bs) :
    Strs (w.setCell ⟨g, i, none⟩ (.string ⟨x.toArray⟩)) (.slice (some ⟨g, 0, none⟩) n cap) (l.set i x) ∧ (w.frozen? ⟨g, i, none⟩ = false) := by
  rcases h.2 with ⟨he, _⟩ | ⟨g', cap', cur, he, hb, hg, hc, hm, hs, ht⟩
  · cases he
  · injection he with h1 h2 h3
    injection h1 with h1
    injection h1 with h1
    subst h1 h2 h3
    refine ⟨⟨by simp, .inr ⟨g, cap, cur.setIfInBounds i (.string ⟨x.toArray⟩), by rw [List.length_set], hb, heap_setCell_same hg _, by rw [List.length_set]; exact hc, hm, by simpa using hs, ?_⟩⟩, box_free hg⟩
    rw [Array.toList_setIfInBounds, List.length_set, List.take_set, ht, List.map_set]
end Go.Proofs.Ytngbmofocochaaa
