/- disk, plainly: a crash that keeps all, and what is edited then. No program. -/
import Derived.Test.YtngbmofocochaaaKeys
namespace Go.Proofs.Ytngbmofocochaaa
open Go.RowKit Go.Maps

theorem get_mem {F : Fs} {k v : Bs} (h : F.get k = some v) : (k, v) ∈ F := by
  unfold Fs.get at h
  cases hf : F.find? fun p => p.1 == k with
  | none => rw [hf] at h; cases h
  | some p =>
    rw [hf] at h
    have h1 := List.find?_some hf
    have h2 := List.mem_of_find?_eq_some hf
    simp only [beq_iff_eq] at h1
    simp only [Option.map_some, Option.some.injEq] at h
    rw [← h1, ← h]
    exact h2
theorem mem_get {F : Fs} (hs : F.Sorted) {p : Bs × Bs} (h : p ∈ F) : F.get p.1 = some p.2 := by
  induction F with
  | nil => cases h
  | cons y r ih =>
    have hne := sorted_ne hs
    unfold Fs.Sorted at hs
    rw [List.pairwise_cons] at hs hne
    unfold Fs.get
    rcases List.mem_cons.1 h with rfl | h
    · simp
    · have : (y.1 == p.1) = false := beq_eq_false_iff_ne.2 (fun e => hne.1 p h e)
      rw [List.find?_cons_of_neg (by simp [this])]
      exact ih hs.2 h
theorem get_put_same {F : Fs} (hs : F.Sorted) (k v : Bs) : (F.put k v).get k = some v := mem_get (hs.put k v) (p := (k, v)) (mem_put.2 (.inl rfl))
theorem get_none {F : Fs} {k : Bs} : F.get k = none ↔ ∀ p ∈ F, p.1 ≠ k := by
  unfold Fs.get
  rw [Option.map_eq_none_iff, List.find?_eq_none]
  simp
theorem get_put_other {F : Fs} (hs : F.Sorted) {k x : Bs} (v : Bs) (hx : x ≠ k) : (F.put k v).get x = F.get x := by
  cases hg : F.get x with
  | none =>
    rw [get_none] at hg ⊢
    intro p hp
    rcases mem_put.1 hp with rfl | ⟨h1, _⟩
    · exact Ne.symm hx
    · exact hg p h1
  | some v' =>
    have := get_mem hg
    exact mem_get (hs.put k v) (p := (x, v')) (mem_put.2 (.inr ⟨this, hx⟩))
theorem keys_has {F : Fs} {k : Bs} : F.has k = true ↔ k ∈ F.keys := by
  rw [has_iff]
  unfold Fs.keys
  rw [List.mem_map]

/-- Two sorted files with the same names and bytes are the same. -/
theorem files_ext {F G : Fs} (hF : F.Sorted) (hG : G.Sorted) (hk : F.keys = G.keys) (hv : ∀ k ∈ F.keys, F.get k = G.get k) : F = G := by
  induction F generalizing G with
  | nil => cases G with
    | nil => rfl
    | cons y r => simp [Fs.keys] at hk
  | cons x r ih =>
    cases G with
    | nil => simp [Fs.keys] at hk
    | cons y s =>
      simp only [Fs.keys, List.map_cons, List.cons.injEq] at hk
      have h1 := mem_get hF (p := x) (by simp)
      have h2 := mem_get hG (p := y) (by simp)
      have h3 := hv x.1 (by simp [Fs.keys])
      rw [h1, hk.1, h2] at h3
      have hxy : x = y := Prod.ext hk.1 (Option.some.inj h3)
      have hneF := sorted_ne hF
      have hneG := sorted_ne hG
      unfold Fs.Sorted at hF hG
      rw [List.pairwise_cons] at hF hG hneF hneG
      rw [hxy, ih hF.2 hG.2 hk.2 (fun k hk2 => ?_)]
      have h4 := hv k (by simp only [Fs.keys, List.map_cons, List.mem_cons]; exact .inr hk2)
      obtain ⟨p, hp, rfl⟩ := List.mem_map.1 hk2
      have hn : (x.1 == p.1) = false := beq_eq_false_iff_ne.2 (fun e => hneF.1 p hp e)
      have hn' : (y.1 == p.1) = false := by rw [← hxy]; exact hn
      unfold Fs.get at h4 ⊢
      rw [List.find?_cons_of_neg (by simp [hn]), List.find?_cons_of_neg (by simp [hn'])] at h4
      exact h4
end Go.Proofs.Ytngbmofocochaaa
