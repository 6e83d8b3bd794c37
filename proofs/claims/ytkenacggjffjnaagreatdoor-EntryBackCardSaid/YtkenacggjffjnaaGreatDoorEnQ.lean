/- entry, plainly: buckets, names, and what an ideal box' file is opened to. No program. -/
import Derived.Test.YtkenacggjffjnaaGreatDoorEnP
import Derived.Test.YtkenacggjffjnaaGreatDoorMap
set_option linter.unusedSimpArgs false
set_option linter.unusedVariables false
set_option linter.unnecessarySimpa false
namespace Go.Proofs.YtkenacggjffjnaaGreatDoor
open Go.Maps

/-! ### buckets -/
theorem bucket_in (n : Nat) : bucket n = 256 ∨ bucket n = 1024 ∨ bucket n = 4096 ∨ bucket n = 16384 := by
  unfold bucket
  split
  · omega
  · split
    · omega
    · split <;> omega
theorem bucket_least (n : Nat) : ¬ (256 < bucket n ∧ n ≤ bucket n / 4) := by
  unfold bucket
  split
  · omega
  · split
    · omega
    · split <;> omega
theorem bucket_same (m n : Nat) (hm : m ≤ 16384) (hn : n ≤ 16384) : (bucket m = bucket n) ↔ (max n 256 ≤ bucket m ∧ (bucket m = 256 ∨ bucket m / 4 < n)) := by
  unfold bucket
  constructor
  · intro h
    repeat' split at h
    all_goals (repeat' split) <;> omega
  · intro h
    repeat' split at h
    all_goals (repeat' split) <;> omega
theorem fillB_ahead (b : Bs) : (fillB b).take (textB b).length = textB b := by unfold fillB; rw [List.take_left]
theorem fillB_behind (b : Bs) (i : Nat) (h : (textB b).length ≤ i) (h2 : i < (fillB b).length) : (fillB b)[i]? = some 0 := by
  unfold fillB zeros at *
  rw [List.length_append, List.length_replicate] at h2
  rw [List.getElem?_append_right h, List.getElem?_replicate, if_pos (by omega)]

/-! ### names -/
theorem dec_ten (n : Nat) (h : 10 ≤ n) : Lib.decDigits n = Lib.decDigits (n / 10) ++ Lib.decDigits (n % 10) := by
  rw [Lib.decDigits_one (i := n % 10) (by omega)]
  conv => lhs; rw [Lib.decDigits]
  rw [dif_neg (by omega)]

/-! ### a box by a table -/
abbrev Sealed3 := Bs × Bs × Bs
def nonceE (n : Nat) : Bs := zeros 4 ++ highB n 8
theorem zeros_length (n : Nat) : (zeros n).length = n := List.length_replicate
theorem nonceE_length (n : Nat) : (nonceE n).length = 12 := by unfold nonceE zeros; rw [List.length_append, highB_length]; rfl
theorem nonceE_inj {a b : Nat} (ha : a < 18446744073709551616) (hb : b < 18446744073709551616) (h : nonceE a = nonceE b) : a = b := by
  unfold nonceE at h
  have h1 := List.append_cancel_left h
  have h2 : fromH (highB a 8) = fromH (highB b 8) := by rw [h1]
  rw [fromH_high, fromH_high] at h2
  omega
/-- What a file is parted into: its entry, the head, what is sealed. -/
def enSplit (s : Bs) : En × Bs × Bs × Int :=
  let q := Rd.text ⟨s, false⟩ 4000
  if (enRead 300 q.1).2 = 0 then ((enRead 300 q.1).1, q.1, q.2.s, 0) else (En.zero, [], [], 2)
theorem enRead_ok {s : Bs} (h : (enRead 300 s).2 = 0) : enMay (enRead 300 s).1 = true ∧ s = headB (enRead 300 s).1 := by
  unfold enRead at h ⊢
  split at h
  · rename_i h1
    rw [if_pos h1]
    exact (enRead_iff 300 (by omega) (by omega) s _).1 ⟨h1.1, h1.2, rfl⟩
  · simp at h
theorem enRead_err (s : Bs) : (enRead 300 s).2 = 0 ∨ (enRead 300 s).2 = 2 := by
  unfold enRead
  split
  · exact .inl rfl
  · exact .inr rfl
theorem enRead_no {s : Bs} (h : (enRead 300 s).2 ≠ 0) : enRead 300 s = (En.zero, 2) := by
  unfold enRead at h ⊢
  split at h
  · exact absurd rfl h
  · rename_i h1; rw [if_neg h1]
theorem headB_ne (e : En) : headB e ≠ [] := by unfold headB numB; simp
theorem rcB_len {x : Rcp} (h : x.1.1.length ≤ 64 ∧ x.1.2.length ≤ 255 ∧ 0 ≤ x.2 ∧ x.2 ≤ 2) : (rcB x).length ≤ 400 := by
  unfold rcB
  have h1 := textB_length_le x.1.1
  have h2 := textB_length_le x.1.2
  have h3 := numB_length_le x.2.toNat
  simp only [List.length_append]
  omega
theorem rcsB_len : ∀ l : List Rcp, (∀ x ∈ l, x.1.1.length ≤ 64 ∧ x.1.2.length ≤ 255 ∧ 0 ≤ x.2 ∧ x.2 ≤ 2) → (l.flatMap rcB).length ≤ 400 * l.length
  | [], _ => by simp
  | x :: l, h => by
    have h1 := rcB_len (h x (by simp))
    have h2 := rcsB_len l (fun y hy => h y (by simp [hy]))
    rw [List.flatMap_cons, List.length_append, List.length_cons]
    omega
theorem text_len2 {s : Bs} (h : s.length ≤ 255) : (textB s).length ≤ 257 := by
  rw [textB_length]
  have : need s.length ≤ 1 := need_le_of (by omega)
  omega
theorem num_len6 {n : Nat} (h : n ≤ 1099511627776) : (numB n).length ≤ 7 := by
  rw [numB_length]
  have : need n ≤ 6 := need_le_of (by omega)
  omega
theorem num_len1 {n : Nat} (h : n ≤ 255) : (numB n).length ≤ 2 := by
  rw [numB_length]
  have : need n ≤ 1 := need_le_of (by omega)
  omega
theorem rcB_len2 {x : Rcp} (h : x.1.1.length ≤ 64 ∧ x.1.2.length ≤ 255 ∧ 0 ≤ x.2 ∧ x.2 ≤ 2) : (rcB x).length ≤ 325 := by
  unfold rcB
  have h1 : (textB x.1.1).length ≤ 66 := by
    rw [textB_length]
    have : need x.1.1.length ≤ 1 := need_le_of (by omega)
    omega
  have h2 := text_len2 h.2.1
  have h3 := num_len1 (n := x.2.toNat) (by omega)
  simp only [List.length_append]
  omega
theorem rcsB_len2 : ∀ l : List Rcp, (∀ x ∈ l, x.1.1.length ≤ 64 ∧ x.1.2.length ≤ 255 ∧ 0 ≤ x.2 ∧ x.2 ≤ 2) → (l.flatMap rcB).length ≤ 325 * l.length
  | [], _ => by simp
  | x :: l, h => by
    have h1 := rcB_len2 (h x (by simp))
    have h2 := rcsB_len2 l (fun y hy => h y (by simp [hy]))
    rw [List.flatMap_cons, List.length_append, List.length_cons]
    omega
/-- A head has no more bytes than are taken of a file. -/
theorem headB_len {e : En} (h : e.Parts) : (headB e).length ≤ 4000 := by
  unfold headB
  have h1 := num_len6 h.id.2
  have h2 := text_len2 h.dom
  have h3 := num_len6 h.ep.2
  have h4 := num_len6 h.cnt
  have h5 : (textB e.frm.1).length ≤ 66 := by
    rw [textB_length]
    have : need e.frm.1.length ≤ 1 := need_le_of (by have := h.frm.1; omega)
    have := h.frm.1
    omega
  have h6 := text_len2 h.frm.2
  have h7 := num_len1 (n := e.rcs.length) (by have := h.rcs.2; omega)
  have h8 := rcsB_len2 e.rcs h.each
  have h9 := num_len6 h.born
  have h10 := num_len6 h.nxt
  have h11 := num_len1 (n := e.tries.toNat) (by have := h.tries; omega)
  have h12 := h.rcs.2
  simp only [List.length_append]
  omega
theorem split_file (e : En) (h : enMay e = true) (s : Bs) : enSplit (textB (headB e) ++ s) = (e, headB e, s, 0) := by
  have hl := headB_len (enMay_parts h)
  unfold enSplit
  rw [text_back (headB e) 4000 s (by omega) hl]
  dsimp only
  rw [enRead_head 300 (by omega) (by omega) e h, if_pos rfl]
/-- What can be parted is just a head, and what stands behind. -/
theorem split_ok {s : Bs} (h : (enSplit s).2.2.2 = 0) : enMay (enSplit s).1 = true ∧ (enSplit s).2.1 = headB (enSplit s).1 ∧ s = textB (headB (enSplit s).1) ++ (enSplit s).2.2.1 := by
  unfold enSplit at h ⊢
  dsimp only at h ⊢
  split at h
  · rename_i h1
    rw [if_pos h1]
    dsimp only
    obtain ⟨h2, h3⟩ := enRead_ok h1
    refine ⟨h2, h3, ?_⟩
    cases hb : (Rd.text ⟨s, false⟩ 4000).2.bad with
    | false =>
      have h4 := (text_ok hb).2
      rw [← h3]
      exact h4
    | true =>
      exfalso
      have h5 : (Rd.text ⟨s, false⟩ 4000).1 = [] := by
        revert hb
        unfold Rd.text Rd.take
        split
        · intro _; rfl
        · intro hb; exact absurd hb (by simp)
      rw [h5] at h3
      exact headB_ne _ h3.symm
  · simp at h
theorem split_no {s : Bs} (h : (enSplit s).2.2.2 ≠ 0) : enSplit s = (En.zero, [], [], 2) := by
  unfold enSplit at h ⊢
  dsimp only at h ⊢
  split at h
  · exact absurd rfl h
  · rename_i h1; rw [if_neg h1]

variable (U : Bs → Bs → Bs)
/-- How a box by a table opens: U makes one key of a key and a nonce. -/
def bxOpen (T : Mp Sealed3) (key nonce data bytes : Bs) : Bs × Int :=
  if key.length = 32 ∧ nonce.length = 12 ∧ data.length ≤ 4096 ∧ 16 ≤ bytes.length ∧ bytes.length ≤ 16400 then
    match T.get (U key nonce) with
    | none => ([], 20)
    | some x => if x.1 = data ∧ x.2.2 = bytes then (x.2.1, 0) else ([], 20)
  else ([], 5)
def bxSeal (T : Mp Sealed3) (draws key nonce data text : Bs) : (Bs × Int) × Bs × Mp Sealed3 :=
  if key.length = 32 ∧ nonce.length = 12 ∧ data.length ≤ 4096 ∧ text.length ≤ 16384 then
    match T.get (U key nonce) with
    | some x => if x.1 = data ∧ x.2.1 = text then ((x.2.2, 0), draws, T) else (([], 11), draws, T)
    | none => if draws.length < text.length + 16 then (([], 21), draws, T) else ((draws.take (text.length + 16), 0), draws.drop (text.length + 16), T.put (U key nonce) (data, text, draws.take (text.length + 16)))
  else (([], 5), draws, T)
theorem bxOpen_ok {T : Mp Sealed3} {key nonce data bytes : Bs} (h : (bxOpen U T key nonce data bytes).2 = 0) : ∃ x, T.get (U key nonce) = some x ∧ x.1 = data ∧ x.2.2 = bytes := by
  unfold bxOpen at h
  split at h
  · cases hg : T.get (U key nonce) with
    | none => rw [hg] at h; simp at h
    | some x =>
      rw [hg] at h
      dsimp only at h
      split at h
      · rename_i h1
        exact ⟨x, rfl, h1⟩
      · simp at h
  · simp at h
/-- How files are made, and opened, by such a box. -/
def enSeal (T : Mp Sealed3) (draws key : Bs) (e : En) (body : Bs) : (Bs × Int) × Bs × Mp Sealed3 :=
  if enMay e = true then
    if body.length ≤ 16000 then
      let q := bxSeal U T draws key (nonceE e.cnt) (headB e) (fillB body)
      if q.1.2 = 0 then ((textB (headB e) ++ q.1.1, 0), q.2) else (([], q.1.2), q.2)
    else (([], 5), draws, T)
  else (([], 2), draws, T)
def enOpen (T : Mp Sealed3) (key file : Bs) : En × Bs × Int :=
  let q := enSplit file
  if q.2.2.2 = 0 then
    let x := bxOpen U T key (nonceE q.1.cnt) q.2.1 q.2.2.1
    if x.2 = 0 then
      if (enUnfill x.1).2 = 0 then (q.1, (enUnfill x.1).1, 0) else (En.zero, [], (enUnfill x.1).2)
    else (En.zero, [], x.2)
  else (En.zero, [], q.2.2.2)
theorem open_zero {T : Mp Sealed3} {key file : Bs} (h : (enOpen U T key file).2.2 ≠ 0) : (enOpen U T key file).2.1 = [] := by
  unfold enOpen at h ⊢
  dsimp only at h ⊢
  repeat' split
  all_goals first | rfl | skip
  all_goals simp_all
/-- A table of one row: what is opened is just its file. -/
theorem turned_open {key other : Bs} {e : En} {body c s : Bs} (he : enMay e = true) (hb : body.length ≤ 16000) (hk : key.length = 32) (ho : other.length = 32) (hc : c.length = (fillB body).length + 16)
    (hU : ∀ a b : Nat, a < 18446744073709551616 → b < 18446744073709551616 → U other (nonceE a) = U key (nonceE b) → other = key ∧ a = b) :
    ((enOpen U (Mp.put [] (U key (nonceE e.cnt)) (headB e, fillB body, c)) other s).2.2 = 0) ↔ (other = key ∧ s = textB (headB e) ++ c) := by
  have hp := enMay_parts he
  have hcnt : e.cnt < 18446744073709551616 := by have := hp.cnt; omega
  have hfl := fillB_length hb
  have hbl := bucket_le (textB body).length
  have hhl := headB_len hp
  constructor
  · intro h
    unfold enOpen at h
    dsimp only at h
    split at h
    · rename_i h1
      obtain ⟨h2, h3, h4⟩ := split_ok h1
      split at h
      · rename_i h5
        obtain ⟨x, hg, h8, h9⟩ := bxOpen_ok U h5
        rw [Mp.get_put] at hg
        split at hg
        · rename_i h7
          obtain ⟨h10, _⟩ := hU _ _ (by have := (enMay_parts h2).cnt; omega) hcnt h7.symm
          injection hg with hg
          subst hg
          dsimp only at h8 h9
          refine ⟨h10, ?_⟩
          rw [h4, ← h9, ← h3, ← h8]
        · simp [Mp.get] at hg
      · rename_i h5
        exact absurd h h5
    · rename_i h1
      exact absurd h h1
  · rintro ⟨rfl, rfl⟩
    unfold enOpen
    rw [split_file e he c]
    dsimp only
    rw [if_pos rfl]
    have hop : bxOpen U (Mp.put [] (U other (nonceE e.cnt)) (headB e, fillB body, c)) other (nonceE e.cnt) (headB e) c = (fillB body, 0) := by
      unfold bxOpen
      rw [if_pos ⟨ho, nonceE_length _, by omega, by omega, by omega⟩, Mp.get_put, if_pos rfl]
      dsimp only
      rw [if_pos ⟨rfl, rfl⟩]
    rw [hop]
    dsimp only
    rw [if_pos rfl, unfill_fill hb, if_pos rfl]
end Go.Proofs.YtkenacggjffjnaaGreatDoor
