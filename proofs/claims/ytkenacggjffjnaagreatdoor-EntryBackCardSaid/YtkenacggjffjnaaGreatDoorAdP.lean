/- addr, plainly: letters, labels, domains, local parts, mailboxes written. No program. addr, plainly: reading a path. No program. addr, plainly: what is written is read as itself; what is read may be written. No program. -/
import Derived.Test.YtkenacggjffjnaaGreatDoorBase
import Derived.Lib.Split
/-! AdP -/
set_option linter.unusedSimpArgs false
set_option linter.unusedVariables false
set_option linter.unnecessarySimpa false
namespace Go.Proofs.YtkenacggjffjnaaGreatDoor

def letB (c : UInt8) : Bool := (decide (97 ≤ c.toNat) && decide (c.toNat ≤ 122)) || (decide (65 ≤ c.toNat) && decide (c.toNat ≤ 90)) || (decide (48 ≤ c.toNat) && decide (c.toNat ≤ 57))
def labB (c : UInt8) : Bool := letB c || c == 45
def adSigns : Bs := [33, 35, 36, 37, 38, 39, 42, 43, 45, 47, 61, 63, 94, 95, 96, 123, 124, 125, 126]
def atomB (c : UInt8) : Bool := letB c || adSigns.contains c
def shownB (c : UInt8) : Bool := decide (32 ≤ c.toNat) && decide (c.toNat ≤ 126)
def allB (p : UInt8 → Bool) (s : Bs) : Bool := s.all p && !s.isEmpty
def lowB (c : UInt8) : UInt8 := if 65 ≤ c.toNat ∧ c.toNat ≤ 90 then c + 32 else c
def smallB (s : Bs) : Bs := s.map lowB
def labelB (s : Bs) : Bool := decide (s.length ≤ 63) && (allB labB s && (!(s.head? == some 45) && !(s.getLast? == some 45)))
def dotsB (s : Bs) : List Bs := Lib.split s [46]
def partsB (p : Bs → Bool) (s : Bs) : Bool := (dotsB s).all p
def domOk (s : Bs) : Bool := decide (s.length ≤ 255) && partsB labelB s
def domV (s : Bs) : Bs × Int := if domOk s then (smallB s, 0) else ([], 2)
def localB (s : Bs) : Bool := decide (s.length ≤ 64) && allB shownB s
def plainB (s : Bs) : Bool := localB s && partsB (allB atomB) s
/-- A mailbox: its local part, its domain. -/
abbrev Mb := Bs × Bs
def mbMay (b : Mb) : Bool := domOk b.2 && smallB b.2 == b.2 && localB b.1
def quoteC (c : UInt8) : Bs := if c == 34 || c == 92 then [92, c] else [c]
def quotedB (s : Bs) : Bs := 34 :: (s.flatMap quoteC ++ [34])
def mbText (b : Mb) : Bs := (if plainB b.1 then b.1 else quotedB b.1) ++ 64 :: b.2
def mbWrite (b : Mb) : Bs × Int := if mbMay b then (mbText b, 0) else ([], 2)
def mbPath (b : Mb) : Bs × Int := if b.1 == [] && b.2 == [] then ([60, 62], 0) else if mbMay b then (60 :: (mbText b ++ [62]), 0) else ([], 2)

def noBoxE (b : Mb) : Bool := b.1 == [] && b.2 == []
theorem smallB_len (s : Bs) : (smallB s).length = s.length := by simp [smallB]
theorem quote_len (s : Bs) : (s.flatMap quoteC).length ≤ 2 * s.length := by
  induction s with
  | nil => simp
  | cons c r ih =>
    rw [List.flatMap_cons, List.length_append, List.length_cons]
    have : (quoteC c).length ≤ 2 := by unfold quoteC; split <;> simp
    omega
end Go.Proofs.YtkenacggjffjnaaGreatDoor

/-! AdR -/
namespace Go.Proofs.YtkenacggjffjnaaGreatDoor

def domC (c : UInt8) : Bool := labB c || c == 46
def locC (c : UInt8) : Bool := atomB c || c == 46
def rdTake (c : UInt8) (s : Bs) : Option Bs := if s.head? = some c then some s.tail else none
def rdDom (s : Bs) : Option (Bs × Bs) := if domOk (s.takeWhile domC) then some (smallB (s.takeWhile domC), s.dropWhile domC) else none
/-- A route: an at-sign stands next. -/
def rdRoutes : Nat → Bs → Option Bs
  | 0, _ => none
  | f + 1, s => (rdTake 64 s).bind fun s1 => (rdDom s1).bind fun q => if q.2.head? = some 44 then rdRoutes f q.2.tail else rdTake 58 q.2
def rdRoute (s : Bs) : Option Bs := if s.head? = some 64 then rdRoutes s.length s else some s
/-- Behind an opening quote: the bytes up to the closing one, and what follows it. -/
def rdQ : Bs → Bs → Option (Bs × Bs)
  | acc, 34 :: r => some (acc, r)
  | acc, 92 :: c :: r => rdQ (acc ++ [c]) r
  | _, [92] => none
  | _, [] => none
  | acc, c :: r => rdQ (acc ++ [c]) r
def rdQuoted (s : Bs) : Option (Bs × Bs) := (rdTake 34 s).bind fun s1 => (rdQ [] s1).bind fun q => if localB q.1 then some q else none
def rdLocal (s : Bs) : Option (Bs × Bs) := if s.head? = some 34 then rdQuoted s else if plainB (s.takeWhile locC) then some (s.takeWhile locC, s.dropWhile locC) else none
def rdPath (s : Bs) : Option (Mb × Bs) := (rdTake 60 s).bind fun s1 => if s1.head? = some 62 then some (([], []), s1.tail) else
  (rdRoute s1).bind fun s2 => (rdLocal s2).bind fun q => (rdTake 64 q.2).bind fun s3 => (rdDom s3).bind fun d => (rdTake 62 d.2).bind fun s4 => some ((q.1, d.1), s4)
def adRead (s : Bs) : Mb × Bs × Int := match rdPath s with
  | some (b, r) => (b, r, 0)
  | none => (([], []), [], 2)
end Go.Proofs.YtkenacggjffjnaaGreatDoor

/-! AdQ -/
namespace Go.Proofs.YtkenacggjffjnaaGreatDoor

/-! ### parts -/
def sepR (d : UInt8) : Bs → List Bs
  | [] => [[]]
  | c :: r => if c = d then [] :: sepR d r else ((c :: (sepR d r).headD []) :: (sepR d r).tail)
theorem sepR_ne (d : UInt8) : ∀ s : Bs, sepR d s ≠ []
  | [] => by simp [sepR]
  | c :: r => by unfold sepR; split <;> simp
theorem sepR_eta (d : UInt8) (s : Bs) : (sepR d s).headD [] :: (sepR d s).tail = sepR d s := by
  cases h : sepR d s with
  | nil => exact absurd h (sepR_ne d s)
  | cons a b => rfl
theorem index_one_cons (c d : UInt8) (r : Bs) : Lib.index (c :: r) [d] = if c = d then 0 else if Lib.index r [d] == -1 then -1 else Lib.index r [d] + 1 := by
  conv => lhs; unfold Lib.index
  by_cases h : c = d
  · subst h; simp [List.isPrefixOf]
  · have : ([d].isPrefixOf (c :: r)) = false := by simp [List.isPrefixOf]; exact fun e => h e.symm
    rw [this, if_neg h]
    simp
theorem split_sep (d : UInt8) : ∀ (n : Nat) (s : Bs), s.length ≤ n → Lib.split s [d] = sepR d s := by
  intro n
  induction n with
  | zero =>
    intro s h
    obtain rfl := List.eq_nil_of_length_eq_zero (Nat.le_zero.1 h)
    rfl
  | succ n ih =>
    intro s h
    cases s with
    | nil => rfl
    | cons c r =>
      have hr := ih r (by simpa using h)
      have hi := index_one_cons c d r
      by_cases hc : c = d
      · rw [if_pos hc] at hi
        have hcnt := Lib.count_hit (s := c :: r) (sub := [d]) (i := 0) (by simp) hi
        unfold Lib.split
        rw [hcnt, Nat.add_comm]
        unfold Lib.splitK
        rw [hi, if_neg (by simp)]
        unfold sepR
        rw [if_pos hc, ← hr]
        rfl
      · rw [if_neg hc] at hi
        unfold sepR
        rw [if_neg hc, ← hr]
        by_cases hm : Lib.index r [d] = -1
        · rw [hm] at hi
          have h1 : Lib.index (c :: r) [d] = -1 := hi
          unfold Lib.split
          rw [Lib.count_miss h1, Lib.count_miss hm]
          rfl
        · have hge := Lib.index_ge r [d]
          obtain ⟨k, hk⟩ : ∃ k : Nat, Lib.index r [d] = k := ⟨(Lib.index r [d]).toNat, by omega⟩
          have h1 : Lib.index (c :: r) [d] = ((k + 1 : Nat) : Int) := by
            rw [hi, if_neg (by simpa using hm), hk]; omega
          unfold Lib.split
          rw [Lib.count_hit (by simp) h1, Lib.count_hit (by simp) hk, Nat.add_comm 1, Nat.add_comm 1]
          have e1 : (c :: r).drop (k + 1 + [d].length) = r.drop (k + [d].length) := by
            rw [show k + 1 + [d].length = (k + [d].length) + 1 by simp, List.drop_succ_cons]
          rw [e1]
          conv => lhs; unfold Lib.splitK
          conv => rhs; unfold Lib.splitK
          rw [h1, hk, if_neg (by simp; omega), if_neg (by simp)]
          simp only [Int.toNat_natCast, Nat.add_zero, List.take_succ_cons, List.headD_cons, List.tail_cons, List.length_cons, List.length_nil, List.drop_succ_cons]
theorem dotsB_eq (s : Bs) : dotsB s = sepR 46 s := split_sep 46 s.length s (Nat.le_refl _)
theorem sepR_all (p : UInt8 → Bool) : ∀ {s : Bs}, (sepR 46 s).all (·.all p) = true → ∀ c ∈ s, p c = true ∨ c = 46
  | [], _ => by simp
  | c :: r, h => by
    intro x hx
    unfold sepR at h
    split at h
    · rename_i hc
      rcases List.mem_cons.1 hx with rfl | hx
      · exact .inr hc
      · exact sepR_all p (by simpa using h) x hx
    · rw [List.all_cons, List.all_cons] at h
      simp only [Bool.and_eq_true] at h
      rcases List.mem_cons.1 hx with rfl | hx
      · exact .inl h.1.1
      · refine sepR_all p (s := r) ?_ x hx
        rw [← sepR_eta, List.all_cons, Bool.and_eq_true]
        exact ⟨h.1.2, h.2⟩
theorem sepR_map (f : UInt8 → UInt8) (hf : ∀ c, f c = 46 ↔ c = 46) : ∀ s : Bs, sepR 46 (s.map f) = (sepR 46 s).map (·.map f)
  | [] => rfl
  | c :: r => by
    rw [List.map_cons]
    unfold sepR
    rw [sepR_map f hf r]
    by_cases hc : c = 46
    · rw [if_pos hc, if_pos ((hf c).2 hc)]; rfl
    · rw [if_neg hc, if_neg (fun h => hc ((hf c).1 h))]
      rw [← sepR_eta 46 r]
      rfl
/-! ### letters -/
theorem u8_all {P : UInt8 → Prop} [DecidablePred P] (h : ∀ n : Fin 256, P (UInt8.ofNat n.val)) (c : UInt8) : P c := by
  have := h ⟨c.toNat, c.toNat_lt⟩
  simpa using this
theorem lowB_dot (c : UInt8) : lowB c = 46 ↔ c = 46 := u8_all (P := fun c => lowB c = 46 ↔ c = 46) (by decide +kernel) c
theorem lowB_idem (c : UInt8) : lowB (lowB c) = lowB c := u8_all (P := fun c => lowB (lowB c) = lowB c) (by decide +kernel) c
theorem lowB_lab (c : UInt8) : labB (lowB c) = labB c := u8_all (P := fun c => labB (lowB c) = labB c) (by decide +kernel) c
theorem lowB_dash (c : UInt8) : (lowB c == 45) = (c == 45) := u8_all (P := fun c => (lowB c == 45) = (c == 45)) (by decide +kernel) c
theorem atom_not (c : UInt8) : atomB c = true → c ≠ 34 ∧ c ≠ 62 ∧ c ≠ 64 ∧ c ≠ 46 ∧ c ≠ 60 := u8_all (P := fun c => atomB c = true → c ≠ 34 ∧ c ≠ 62 ∧ c ≠ 64 ∧ c ≠ 46 ∧ c ≠ 60) (by decide +kernel) c
theorem lab_dom (c : UInt8) : labB c = true → domC c = true := fun h => by simp [domC, h]
theorem smallB_idem (s : Bs) : smallB (smallB s) = smallB s := by
  unfold smallB
  rw [List.map_map]
  exact List.map_congr_left fun c _ => lowB_idem c
theorem labelB_small (s : Bs) : labelB (smallB s) = labelB s := by
  unfold labelB allB smallB
  rw [List.length_map, List.all_map, List.head?_map, List.getLast?_map]
  have e1 : (s.all (labB ∘ lowB)) = s.all labB := by
    congr 1
    funext c
    exact lowB_lab c
  have e2 : (s.map lowB).isEmpty = s.isEmpty := by cases s <;> rfl
  have e3 : ∀ o : Option UInt8, (o.map lowB == some 45) = (o == some 45) := fun o => by
    cases o with
    | none => rfl
    | some c =>
      have := lowB_dash c
      simpa using this
  rw [e1, e2, e3, e3]
theorem domOk_small (s : Bs) : domOk (smallB s) = domOk s := by
  unfold domOk partsB
  rw [dotsB_eq, dotsB_eq, smallB_len]
  unfold smallB
  rw [sepR_map lowB lowB_dot, List.all_map]
  congr 2
  funext p
  exact labelB_small p
theorem domOk_all {s : Bs} (h : domOk s = true) : ∀ c ∈ s, domC c = true := by
  unfold domOk partsB at h
  rw [dotsB_eq, Bool.and_eq_true] at h
  have h2 : (sepR 46 s).all (·.all labB) = true := by
    rw [List.all_eq_true] at h ⊢
    intro p hp
    have := h.2 p hp
    unfold labelB allB at this
    simp only [Bool.and_eq_true] at this
    exact this.2.1.1
  intro c hc
  rcases sepR_all labB h2 c hc with h | h
  · exact lab_dom c h
  · subst h; rfl
theorem plainB_all {s : Bs} (h : plainB s = true) : ∀ c ∈ s, locC c = true := by
  unfold plainB partsB at h
  rw [dotsB_eq, Bool.and_eq_true] at h
  have h2 : (sepR 46 s).all (·.all atomB) = true := by
    rw [List.all_eq_true] at h ⊢
    intro p hp
    have := h.2 p hp
    unfold allB at this
    rw [Bool.and_eq_true] at this
    exact this.1
  intro c hc
  unfold locC
  rcases sepR_all atomB h2 c hc with h | h
  · simp [h]
  · subst h; simp
theorem plainB_head {s : Bs} (h : plainB s = true) : ∃ c r, s = c :: r ∧ atomB c = true := by
  unfold plainB partsB at h
  rw [dotsB_eq, Bool.and_eq_true] at h
  cases s with
  | nil => simp [sepR, allB] at h
  | cons c r =>
    refine ⟨c, r, rfl, ?_⟩
    have h2 := h.2
    unfold sepR at h2
    split at h2
    · simp [allB] at h2
    · rw [List.all_cons, Bool.and_eq_true] at h2
      have := h2.1
      unfold allB at this
      simp only [List.all_cons, Bool.and_eq_true] at this
      exact this.1.1
theorem domOk_ne {s : Bs} (h : domOk s = true) : s ≠ [] := by
  rintro rfl
  revert h
  decide
theorem localB_ne {s : Bs} (h : localB s = true) : s ≠ [] := by
  rintro rfl
  revert h
  decide
/-! ### there and back -/
theorem takeWhile_stop (p : UInt8 → Bool) (a r : Bs) (c : UInt8) (ha : ∀ x ∈ a, p x = true) (hc : p c = false) : (a ++ c :: r).takeWhile p = a ∧ (a ++ c :: r).dropWhile p = c :: r := by
  induction a with
  | nil => simp [hc]
  | cons x t ih =>
    have h1 := ha x (by simp)
    have h2 := ih fun y hy => ha y (by simp [hy])
    simp [h1, h2]
theorem rdDom_text {d r : Bs} {c : UInt8} (h : domOk d = true) (hs : smallB d = d) (hc : domC c = false) : rdDom (d ++ c :: r) = some (d, c :: r) := by
  obtain ⟨h1, h2⟩ := takeWhile_stop domC d r c (domOk_all h) hc
  unfold rdDom
  rw [h1, h2, if_pos h, hs]
theorem rdQ_text (r : Bs) : ∀ (s acc : Bs), rdQ acc (s.flatMap quoteC ++ 34 :: r) = some (acc ++ s, r)
  | [], acc => by simp [rdQ]
  | c :: t, acc => by
    have ih := rdQ_text r t (acc ++ [c])
    rw [List.flatMap_cons, List.append_assoc]
    by_cases hc : c = 34 ∨ c = 92
    · have : quoteC c = [92, c] := by unfold quoteC; rw [if_pos (by simpa using hc)]
      rw [this]
      show rdQ acc (92 :: c :: (t.flatMap quoteC ++ 34 :: r)) = _
      rw [rdQ, ih]
      simp
    · have : quoteC c = [c] := by unfold quoteC; rw [if_neg (by simpa using hc)]
      rw [this]
      show rdQ acc (c :: (t.flatMap quoteC ++ 34 :: r)) = _
      have h1 : c ≠ 34 := fun h => hc (.inl h)
      have h2 : c ≠ 92 := fun h => hc (.inr h)
      rw [rdQ, ih]
      · simp
      · exact h1
      · intro _ _ h; exact absurd h h2
      · intro h; exact absurd h h2
theorem rdLocal_text {l r : Bs} (h : localB l = true) : rdLocal ((if plainB l then l else quotedB l) ++ 64 :: r) = some (l, 64 :: r) := by
  by_cases hp : plainB l = true
  · rw [if_pos hp]
    obtain ⟨c, t, rfl, hc⟩ := plainB_head hp
    obtain ⟨h1, h2⟩ := takeWhile_stop locC (c :: t) r 64 (plainB_all hp) (by decide)
    unfold rdLocal
    rw [if_neg (by simpa using (atom_not c hc).1), h1, h2, if_pos hp]
  · rw [if_neg hp]
    unfold rdLocal quotedB
    rw [if_pos (by simp)]
    unfold rdQuoted rdTake
    rw [if_pos (by simp)]
    simp only [List.cons_append, List.tail_cons, Option.bind_some, List.append_assoc, List.nil_append]
    rw [rdQ_text]
    simp [h]
theorem mbText_head (b : Mb) (h : localB b.1 = true) (r : Bs) : (mbText b ++ r).head? ≠ some 62 ∧ (mbText b ++ r).head? ≠ some 64 := by
  unfold mbText
  by_cases hp : plainB b.1 = true
  · rw [if_pos hp]
    obtain ⟨c, t, e, hc⟩ := plainB_head hp
    rw [e]
    have := atom_not c hc
    simp [this]
  · rw [if_neg hp]
    unfold quotedB
    simp
theorem rdPath_text {b : Mb} (h : mbMay b = true) (r : Bs) : rdPath (60 :: (mbText b ++ [62]) ++ r) = some (b, r) := by
  have h' := h
  unfold mbMay at h'
  simp only [Bool.and_eq_true, beq_iff_eq] at h'
  obtain ⟨⟨h1, h2⟩, h3⟩ := h'
  have hh := mbText_head b h3 (62 :: r)
  unfold rdPath
  have e0 : rdTake 60 (60 :: (mbText b ++ [62]) ++ r) = some (mbText b ++ 62 :: r) := by simp [rdTake]
  rw [e0, Option.bind_some, if_neg hh.1]
  have e1 : rdRoute (mbText b ++ 62 :: r) = some (mbText b ++ 62 :: r) := by unfold rdRoute; rw [if_neg hh.2]
  rw [e1, Option.bind_some]
  have e2 : mbText b ++ 62 :: r = (if plainB b.1 then b.1 else quotedB b.1) ++ 64 :: (b.2 ++ 62 :: r) := by simp [mbText]
  rw [e2, rdLocal_text h3, Option.bind_some]
  have e3 : rdTake 64 (64 :: (b.2 ++ 62 :: r)) = some (b.2 ++ 62 :: r) := by simp [rdTake]
  dsimp only
  rw [e3, Option.bind_some, rdDom_text h1 h2 (by decide), Option.bind_some]
  simp [rdTake]
theorem rdPath_none (r : Bs) : rdPath (60 :: 62 :: r) = some (([], []), r) := by simp [rdPath, rdTake]
theorem rdPath_path {b : Mb} (h : (mbPath b).2 = 0) (r : Bs) : rdPath ((mbPath b).1 ++ r) = some (b, r) := by
  unfold mbPath at h ⊢
  split at h
  · rename_i hb
    rw [if_pos hb]
    simp only [Bool.and_eq_true, beq_iff_eq] at hb
    obtain ⟨x, y⟩ := b
    obtain ⟨rfl, rfl⟩ := hb
    exact rdPath_none r
  · rename_i hb
    rw [if_neg hb]
    split at h
    · rename_i hm
      rw [if_pos hm]
      exact rdPath_text hm r
    · exact absurd h (by simp)
/-! ### what is read may be -/
theorem rdDom_may {s : Bs} {d r : Bs} (h : rdDom s = some (d, r)) : domOk d = true ∧ smallB d = d := by
  unfold rdDom at h
  split at h
  · rename_i hd
    simp only [Option.some.injEq, Prod.mk.injEq] at h
    rw [← h.1, domOk_small, smallB_idem]
    exact ⟨hd, rfl⟩
  · cases h
theorem plainB_local {s : Bs} (h : plainB s = true) : localB s = true := by
  unfold plainB at h
  rw [Bool.and_eq_true] at h
  exact h.1
theorem rdLocal_may {s l r : Bs} (h : rdLocal s = some (l, r)) : localB l = true := by
  unfold rdLocal at h
  split at h
  · unfold rdQuoted at h
    simp only [Option.bind_eq_some_iff] at h
    obtain ⟨s1, _, q, _, h⟩ := h
    split at h
    · rename_i hq
      simp only [Option.some.injEq] at h
      rw [h] at hq
      exact hq
    · cases h
  · split at h
    · rename_i hp
      simp only [Option.some.injEq, Prod.mk.injEq] at h
      rw [← h.1]
      exact plainB_local hp
    · cases h
theorem rdPath_may {s r : Bs} {b : Mb} (h : rdPath s = some (b, r)) : b = ([], []) ∨ mbMay b = true := by
  unfold rdPath at h
  simp only [Option.bind_eq_some_iff] at h
  obtain ⟨s1, _, h⟩ := h
  split at h
  · simp only [Option.some.injEq, Prod.mk.injEq] at h
    exact .inl h.1.symm
  · simp only [Option.bind_eq_some_iff, Option.some.injEq, Prod.mk.injEq] at h
    obtain ⟨s2, _, q, hq, s3, _, d, hd, s4, _, hb, _⟩ := h
    right
    have h1 := rdLocal_may (s := s2) (l := q.1) (r := q.2) hq
    have h2 := rdDom_may (s := s3) (d := d.1) (r := d.2) hd
    rw [← hb]
    unfold mbMay
    simp [h1, h2]
theorem mbMay_ne {b : Mb} (h : mbMay b = true) : noBoxE b = false := by
  unfold mbMay at h
  simp only [Bool.and_eq_true] at h
  unfold noBoxE
  have := localB_ne h.2
  simp [this]
theorem mbPath_may {b : Mb} (h : b = ([], []) ∨ mbMay b = true) : (mbPath b).2 = 0 := by
  rcases h with rfl | h
  · rfl
  · unfold mbPath
    split
    · rfl
    · rfl
end Go.Proofs.YtkenacggjffjnaaGreatDoor
