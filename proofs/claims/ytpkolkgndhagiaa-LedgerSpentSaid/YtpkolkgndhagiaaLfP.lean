/- LedgerFile, plainly: the rows of a ledger whose disk never fails. No program. -/
import Derived.Test.YtpkolkgndhagiaaLgP
import Derived.Test.YtpkolkgndhagiaaKeysM
import Derived.Test.YtpkolkgndhagiaaLg5
namespace Go.Proofs.Ytpkolkgndhagiaa
open Go.RowKit Go.Maps

def cntOf (l : List LRow) (k : Bs) : Nat := l.countP fun r => r.key == k
theorem cntOf_snoc (l : List LRow) (x : LRow) (k : Bs) : cntOf (l ++ [x]) k = cntOf l k + (if x.key = k then 1 else 0) := by
  unfold cntOf
  rw [List.countP_append, List.countP_singleton]
  simp
/-- Each row has one step more than the last one of its key. -/
def Steps (step : Nat) (l : List LRow) : Prop := ∀ (j : Nat) (h : j < l.length), l[j].ceil = (lgOf (ledPuts (l.take j)) l[j].key).ceil + step
theorem Steps.snoc {step : Nat} {l : List LRow} (h : Steps step l) (x : LRow) (hx : x.ceil = (lgOf (ledPuts l) x.key).ceil + step) : Steps step (l ++ [x]) := by
  intro j hj
  by_cases hlt : j < l.length
  · rw [List.getElem_append_left hlt, List.take_append_of_le_length (by omega)]
    exact h j hlt
  · obtain rfl : j = l.length := by simp at hj; omega
    simp only [List.getElem_append_right (Nat.le_refl _), Nat.sub_self, List.getElem_cons_zero]
    rw [List.take_left' rfl]
    exact hx
theorem lgetD_put (T : Mp Nat) (x : Bs) (v : Nat) (k : Bs) : ((T.put x v).get k).getD 0 = if x = k then v else (T.get k).getD 0 := by
  rw [Mp.get_put]
  split <;> rfl
theorem pos_put {T : Mp Nat} (h : ∀ p ∈ T, 0 < p.2) (x : Bs) (v : Nat) (hv : 0 < v) : ∀ p ∈ T.put x v, 0 < p.2 := fun p hp => by
  rcases Mp.mem_put.1 hp with rfl | ⟨hp, _⟩
  · exact hv
  · exact h p hp
theorem lget_of_mem {V : Type} {T : Mp V} (hs : T.Pairwise fun p q => bytesBefore p.1 q.1 = true) {x : Bs} {n : V} (h : (x, n) ∈ T) : T.get x = some n := by
  have hne := rising_ne hs
  clear hs
  induction T with
  | nil => cases h
  | cons y r ih =>
    rw [List.pairwise_cons] at hne
    rw [Mp.get_cons]
    rcases List.mem_cons.1 h with rfl | h
    · rw [if_pos rfl]
    · rw [if_neg (hne.1 _ h)]
      exact ih h hne.2
theorem get_mem {V : Type} {T : Mp V} {x : Bs} {n : V} (h : T.get x = some n) : (x, n) ∈ T := by
  unfold Mp.get at h
  cases hf : T.find? fun p => p.1 == x with
  | none => rw [hf] at h; cases h
  | some p =>
    rw [hf] at h
    cases h
    have h1 := List.mem_of_find?_eq_some hf
    have h2 := List.find?_some hf
    obtain ⟨a, b⟩ := p
    simp only [beq_iff_eq] at h2
    subst h2
    exact h1
theorem keys_nodup {V : Type} {T : Mp V} (hs : T.Pairwise fun p q => bytesBefore p.1 q.1 = true) : T.keys.Nodup := by
  unfold Mp.keys List.Nodup
  rw [List.pairwise_map]
  exact rising_ne hs
theorem keys_pos {T : Mp Nat} (hp : ∀ p ∈ T, 0 < p.2) (k : Bs) : k ∈ T.keys ↔ 0 < (T.get k).getD 0 := by
  rw [Mp.mem_keys]
  cases h : T.get k with
  | none => simp
  | some n => simpa using hp _ (get_mem h)
theorem len_keys {V : Type} {T : Mp V} {l : List Bs} (hs : T.Pairwise fun p q => bytesBefore p.1 q.1 = true) (hl : l.Nodup) (h : ∀ k, k ∈ l ↔ k ∈ T.keys) : l.length = T.length := by
  have := ((List.perm_ext_iff_of_nodup hl (keys_nodup hs)).2 h).length_eq
  rw [this]
  simp [Mp.keys]
theorem ledNextN_ok {b step most : Nat} {D : Dk} {M : Mp Cnt} {l : List LRow} (h : LInv b step most D M l []) (hb : b ≤ 1000) (hd : D.dead = false) (hf : D.fuse < 0) (hq : 1048576 ≤ D.quota) (x : Bs) (hx : x.length ≤ 300) (hc : (lgOf M x).c < most) :
    (ledNextN D M step most x).2.2.2 = 0 := by
  unfold ledNextN
  rw [if_neg (by omega), if_neg (by omega)]
  split
  · rw [reserve_eq]
    have hl := lrows_len l (fun p hp => h.ld.ok p (by simp [hp]))
    have hr := h.rows
    have hrow := lrow_length_le ⟨x, min ((lgOf M x).ceil + step) most⟩
    simp only [List.append_nil] at hr
    dsimp only at hrow
    rcases h.ld.fd.add (LRow.text ⟨x, min ((lgOf M x).ceil + step) most⟩) with ⟨_, e⟩ | ⟨_, _, _, _, e, _⟩ | ⟨e, _⟩
    · exfalso; omega
    · rcases e with e | e
      · rw [hd] at e; cases e
      · exfalso; omega
    · rw [if_neg (by rw [e]; simp)]
  · rfl

/-- Counters, rows and what was asked for, on a disk that never fails. -/
structure FInv (i step : Nat) (D : Dk) (M : Mp Cnt) (l : List LRow) (T : Mp Nat) : Prop where
  inv : LInv i step 1073741824 D M l []
  dead : D.dead = false
  fuse : D.fuse < 0
  quota : 1048576 ≤ D.quota
  asked : ∀ k, (T.get k).getD 0 = (lgOf M k).c
  low : ∀ k, (lgOf M k).c ≤ i
  pos : ∀ p ∈ T, 0 < p.2
  tlen : T.length ≤ i
  steps : Steps step l
  many : ∀ k, (lgOf (ledPuts l) k).ceil = step * cntOf l k
theorem FInv.next {i step : Nat} {D : Dk} {M : Mp Cnt} {l : List LRow} {T : Mp Nat} (h : FInv i step D M l T) (hi : i ≤ 1000) (hs : step ≤ 1000) (x : Bs) (hx : x.length ≤ 300) :
    ∃ D2 M2 s2 l2, ledNextN D M step 1073741824 x = (D2, M2, s2, 0) ∧ FInv (i + 1) step D2 M2 l2 (T.put x ((T.get x).getD 0 + 1)) := by
  have h0 := ledNextN_ok h.inv hi h.dead h.fuse h.quota x hx (by have := h.low x; omega)
  have hc := h.inv.cnt x
  have hlow := h.low x
  have ht : (T.put x ((T.get x).getD 0 + 1)).length ≤ i + 1 := by have := Mp.length_put_le T x ((T.get x).getD 0 + 1); have := h.tlen; omega
  have hN := h.inv.next x hi (by decide)
  generalize ledNextN D M step 1073741824 x = R at *
  obtain ⟨D2, M2, s2, e2⟩ := R
  dsimp only at *
  subst h0
  rcases hN with ⟨he, _⟩ | ⟨_, _, _, _, hq, ceil, hM, hI⟩
  · exact absurd rfl he
  · have hask : ∀ k, ((T.put x ((T.get x).getD 0 + 1)).get k).getD 0 = (lgOf (M.put x ⟨(lgOf M x).c + 1, ceil⟩) k).c := fun k => by
      rw [lgetD_put, lgOf_put, h.asked x]
      split
      · rfl
      · exact h.asked k
    have hlow2 : ∀ k, (lgOf (M.put x ⟨(lgOf M x).c + 1, ceil⟩) k).c ≤ i + 1 := fun k => by
      rw [lgOf_put]
      split
      · simp only; omega
      · have := h.low k; omega
    subst hM
    rcases hI with ⟨_, _, rfl, hI⟩ | ⟨_, rfl, _, _, hd, hf, hI⟩
    · refine ⟨_, _, _, l, rfl, ⟨?_, ?_, ?_, ?_, ?_, ?_, pos_put h.pos _ _ (by omega), ht, h.steps, h.many⟩⟩
      · exact hI
      · exact h.dead
      · exact h.fuse
      · exact h.quota
      · exact hask
      · exact hlow2
    · have hmin : min ((lgOf M x).ceil + step) 1073741824 = (lgOf M x).ceil + step := by omega
      refine ⟨_, _, _, l ++ [⟨x, min ((lgOf M x).ceil + step) 1073741824⟩], rfl, ⟨?_, ?_, ?_, ?_, ?_, ?_, pos_put h.pos _ _ (by omega), ht, h.steps.snoc _ ?_, ?_⟩⟩
      · exact hI
      · exact hd
      · exact hf h.fuse
      · rw [hq]; exact h.quota
      · exact hask
      · exact hlow2
      · dsimp only
        rw [hmin, hc.2.1]
      · intro k
        rw [lgOf_puts, cntOf_snoc]
        dsimp only
        split
        · rename_i hk
          subst hk
          rw [hmin, hc.2.1, h.many x]
          simp only
          rw [Nat.mul_add]
          omega
        · exact h.many k
theorem FInv.div {i step : Nat} {D : Dk} {M : Mp Cnt} {l : List LRow} {T : Mp Nat} (h : FInv i step D M l T) (hs : 1 ≤ step) (k : Bs) : cntOf l k = ((T.get k).getD 0 + step - 1) / step := by
  obtain ⟨h1, h2, h3⟩ := h.inv.cnt k
  rw [h2, h.many k] at h1 h3
  rw [h.asked k]
  symm
  rw [Nat.div_eq_iff (by omega)]
  rw [Nat.mul_comm] at h1 h3
  constructor <;> omega
theorem FInv.keys {i step : Nat} {D : Dk} {M : Mp Cnt} {l : List LRow} {T : Mp Nat} (h : FInv i step D M l T) (hs : 1 ≤ step) (k : Bs) : 0 < (lgOf M k).ceil ↔ k ∈ T.keys := by
  rw [keys_pos h.pos, h.asked k]
  obtain ⟨h1, h2, h3⟩ := h.inv.cnt k
  rw [h2, h.many k] at h1 h3
  rw [h2, h.many k]
  constructor
  · intro h4
    have h5 : 0 < cntOf l k := Nat.pos_of_mul_pos_left h4
    have : step ≤ step * cntOf l k := Nat.le_mul_of_pos_right _ h5
    omega
  · omega
theorem mem_keysOf {M : Mp Cnt} (hs : M.Pairwise fun p q => bytesBefore p.1 q.1 = true) (k : Bs) : k ∈ keysOf M ↔ 0 < (lgOf M k).ceil := by
  unfold keysOf
  rw [List.mem_map]
  constructor
  · rintro ⟨⟨x, c⟩, hp, rfl⟩
    obtain ⟨h1, h2⟩ := List.mem_filter.1 hp
    unfold lgOf
    rw [lget_of_mem hs h1]
    simpa using h2
  · intro h
    unfold lgOf at h
    cases hg : M.get k with
    | none => rw [hg] at h; simp at h
    | some c =>
      rw [hg] at h
      exact ⟨(k, c), List.mem_filter.2 ⟨get_mem hg, by simpa using h⟩, rfl⟩
theorem FInv.len1 {i step : Nat} {D : Dk} {M : Mp Cnt} {l : List LRow} {T : Mp Nat} (h : FInv i step D M l T) (hs : 1 ≤ step) (hM : M.Pairwise fun p q => bytesBefore p.1 q.1 = true) (hT : T.Pairwise fun p q => bytesBefore p.1 q.1 = true) : (keysOf M).length = T.length := by
  refine len_keys hT ?_ fun k => ?_
  · unfold keysOf List.Nodup
    rw [List.pairwise_map]
    exact (rising_ne hM).filter _
  · rw [mem_keysOf hM, h.keys hs]
/-- The two maps of the statement behind the rows l. -/
structure Seen (l : List LRow) (A B : Mp Nat) : Prop where
  last : ∀ k, (A.get k).getD 0 = (lgOf (ledPuts l) k).ceil
  many : ∀ k, (B.get k).getD 0 = cntOf l k
  pos : ∀ p ∈ B, 0 < p.2
  alen : A.length ≤ l.length
  blen : B.length ≤ l.length
theorem Seen.nil : Seen [] [] [] := ⟨fun _ => rfl, fun _ => rfl, by simp, by simp, by simp⟩
theorem Seen.snoc {l : List LRow} {A B : Mp Nat} (h : Seen l A B) (x : LRow) : Seen (l ++ [x]) (A.put x.key x.ceil) (B.put x.key ((B.get x.key).getD 0 + 1)) := by
  refine ⟨fun k => ?_, fun k => ?_, pos_put h.pos _ _ (by omega), ?_, ?_⟩
  · rw [lgetD_put, lgOf_puts]
    split
    · rfl
    · exact h.last k
  · rw [lgetD_put, cntOf_snoc, h.many]
    split
    · rename_i hk; rw [hk]
    · rw [h.many]; rfl
  · have := Mp.length_put_le A x.key x.ceil; have := h.alen; simp; omega
  · have := Mp.length_put_le B x.key ((B.get x.key).getD 0 + 1); have := h.blen; simp; omega
theorem FInv.len2 {i step : Nat} {D : Dk} {M : Mp Cnt} {l : List LRow} {T A B : Mp Nat} (h : FInv i step D M l T) (hs : 1 ≤ step) (hz : Seen l A B) (hT : T.Pairwise fun p q => bytesBefore p.1 q.1 = true) (hB : B.Pairwise fun p q => bytesBefore p.1 q.1 = true) : B.length = T.length := by
  have := len_keys hT (keys_nodup hB) fun k => by
    rw [keys_pos hz.pos, hz.many, ← h.keys hs]
    obtain ⟨h1, h2, h3⟩ := h.inv.cnt k
    rw [h2, h.many k]
    constructor
    · intro h4; exact Nat.mul_pos (by omega) h4
    · intro h4; exact Nat.pos_of_mul_pos_left h4
  simpa [Mp.keys] using this
end Go.Proofs.Ytpkolkgndhagiaa
