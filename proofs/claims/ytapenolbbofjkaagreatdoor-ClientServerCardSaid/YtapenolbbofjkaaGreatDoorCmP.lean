/- cmd, plainly: commands written and read. No program. cmd, plainly: a command's line is read as the command, in whichever letters its verb is written, and with whichever spaces behind; what is read may be. No program. -/
import Derived.Test.YtapenolbbofjkaaGreatDoorAdP
import Derived.Lib.SlTrimSet
import Derived.Lib.ItoaNum
/-! CmP -/
set_option linter.unusedSimpArgs false
set_option linter.unusedVariables false
set_option linter.unnecessarySimpa false
namespace Go.Proofs.YtapenolbbofjkaaGreatDoor

/-- A command. -/
structure Cm where
  verb : Int
  text : Bs
  box : Mb
  size : Int
  eight : Bool
deriving DecidableEq

def upB (c : UInt8) : UInt8 := if 97 ≤ c.toNat ∧ c.toNat ≤ 122 then c - 32 else c
def greatB (s : Bs) : Bs := s.map upB
def printB (s : Bs) : Bool := s.all shownB
def trimSp (s : Bs) : Bs := Lib.trimB s 32
def verbWs : List Bs := [[], [72, 69, 76, 79], [69, 72, 76, 79], [77, 65, 73, 76], [82, 67, 80, 84], [68, 65, 84, 65], [82, 83, 69, 84], [78, 79, 79, 80], [81, 85, 73, 84], [86, 82, 70, 89]]
abbrev noBox (b : Mb) : Bool := noBoxE b
def bareC (c : Cm) : Bool := c.text == [] && (noBox c.box && !c.eight)
def saidC (c : Cm) : Bool := printB c.text && (trimSp c.text == c.text && (noBox c.box && !c.eight))
def fromW : Bs := [32, 70, 82, 79, 77, 58]
def sizeW : Bs := [32, 83, 73, 90, 69, 61]
def bodyW : Bs := [32, 66, 79, 68, 89, 61, 56, 66, 73, 84, 77, 73, 77, 69]
def toW : Bs := [32, 84, 79, 58]
def fromC (c : Cm) : Bs × Bool :=
  (fromW ++ (mbPath c.box).1 ++ (if 0 ≤ c.size then sizeW ++ Lib.decDigits c.size.toNat else []) ++ (if c.eight then bodyW else []),
   (mbPath c.box).2 == 0 && (c.text == [] && (decide (-1 ≤ c.size) && decide (c.size ≤ 999999999999))))
def toC (c : Cm) : Bs × Bool := (toW ++ (mbPath c.box).1, (mbPath c.box).2 == 0 && (!noBox c.box && (c.text == [] && !c.eight)))
def greetC (c : Cm) : Bs × Bool := (32 :: c.text, (domV c.text).2 == 0 && ((domV c.text).1 == c.text && (noBox c.box && !c.eight)))
def besideC (c : Cm) : Bs × Bool :=
  if c.verb = 1 ∨ c.verb = 2 then greetC c
  else if c.verb = 3 then fromC c
  else if c.verb = 4 then toC c
  else if c.verb = 9 then (32 :: c.text, saidC c && !(c.text == []))
  else if c.verb = 7 then (if c.text = [] then ([], bareC c) else (32 :: c.text, saidC c))
  else ([], bareC c)
def cmWrite (c : Cm) : Bs × Int :=
  if c.verb < 1 ∨ 9 < c.verb then ([], 1)
  else if (besideC c).2 then ((verbWs[c.verb.toNat]?).getD [] ++ (besideC c).1, 0) else ([], 2)

def classC (code : Int) : Int := if code < 200 ∨ 599 < code then 0 else code.tdiv 100
/-! reading -/
def rdWord (w s : Bs) : Option Bs := if w.length ≤ s.length ∧ greatB (s.take w.length) = w then some (s.drop w.length) else none
def valB (s : Bs) : Bs := s.takeWhile fun c => !(c == 32)
def valR (s : Bs) : Bs := s.drop (valB s).length
def spR (s : Bs) : Bs := Lib.trimLeftB s 32
def digitsW : Bs := [48, 49, 50, 51, 52, 53, 54, 55, 56, 57]
def sizeOkB (s : Bs) : Bool := !(s == []) && (decide (s.length ≤ 12) && s.all digitsW.contains)
def szW : Bs := [83, 73, 90, 69, 61]
def bdW : Bs := [66, 79, 68, 89, 61]
def eightW : Bs := [56, 66, 73, 84, 77, 73, 77, 69]
def sevenW : Bs := [55, 66, 73, 84]
def numV (s : Bs) : Nat := s.foldl (fun a c => a * 10 + (c.toNat - 48)) 0
/-- What Mail says behind its path: the size, 8 bits. -/
def mailL : Nat → Bs → Int → Bool → Bool → Option (Int × Bool)
  | 0, _, _, _, _ => none
  | f + 1, s, size, eight, seen =>
    if s = [] then some (size, eight)
    else if s.head? ≠ some 32 then none
    else if spR s = [] then some (size, eight)
    else match rdWord szW (spR s) with
      | some s2 => if 0 ≤ size ∨ sizeOkB (valB s2) = false then none else mailL f (valR s2) (numV (valB s2)) eight seen
      | none => match rdWord bdW (spR s) with
        | some s2 => if seen then none else if greatB (valB s2) = eightW then mailL f (valR s2) size true true
          else if greatB (valB s2) = sevenW then mailL f (valR s2) size false true else none
        | none => none
def boxC (w s : Bs) : Option (Mb × Bs) := if s.head? = some 32 then (rdWord w (spR s)).bind fun s1 => rdPath (spR s1) else none
def fromB : Bs := [70, 82, 79, 77, 58]
def toB : Bs := [84, 79, 58]
def moreC (v : Int) (s : Bs) : Option Cm :=
  if v = 1 ∨ v = 2 then (if (domV (trimSp s)).2 = 0 then some ⟨v, (domV (trimSp s)).1, ([], []), -1, false⟩ else none)
  else if v = 3 then (boxC fromB s).bind fun q => (mailL (q.2.length + 1) q.2 (-1) false false).map fun r => ⟨3, [], q.1, r.1, r.2⟩
  else if v = 4 then (boxC toB s).bind fun q => if noBox q.1 = false ∧ spR q.2 = [] then some ⟨4, [], q.1, -1, false⟩ else none
  else if v = 7 ∨ v = 9 then (if printB (trimSp s) = true ∧ (v = 7 ∨ trimSp s ≠ []) then some ⟨v, trimSp s, ([], []), -1, false⟩ else none)
  else if spR s = [] then some ⟨v, [], ([], []), -1, false⟩ else none
/-- The number of a verb's word; 0: it is none. -/
def verbN (s : Bs) : Nat := ((List.range 10).filter fun i => decide (0 < i) && (verbWs[i]? == some (greatB s))).getLast?.getD 0
def cm0 : Cm := ⟨0, [], ([], []), 0, false⟩
def cmParse (s : Bs) : Cm × Int := if verbN (valB s) = 0 then (cm0, 1) else match moreC (verbN (valB s)) (valR s) with
  | some c => (c, 0)
  | none => (cm0, 2)
end Go.Proofs.YtapenolbbofjkaaGreatDoor

/-! CmQ -/
namespace Go.Proofs.YtapenolbbofjkaaGreatDoor
open Go.Lib (decDigits)

abbrev spcs (k : Nat) : Bs := List.replicate k 32
def normC (c : Cm) : Cm := if c.verb = 3 then c else { c with size := -1 }

/-! ### spaces -/
theorem spR_cons (s : Bs) : spR (32 :: s) = spR s := by simp [spR, Lib.trimLeftB]
theorem spR_stop {c : UInt8} (h : c ≠ 32) (s : Bs) : spR (c :: s) = c :: s := by
  have : (c == 32) = false := by simpa using h
  simp [spR, Lib.trimLeftB, List.dropWhile_cons, this]
theorem spR_spcs : ∀ k, spR (spcs k) = []
  | 0 => rfl
  | k + 1 => by rw [spcs, List.replicate_succ, spR_cons]; exact spR_spcs k
theorem spR_app {s : Bs} (h : spR s ≠ []) (t : Bs) : spR (s ++ t) = spR s ++ t := by
  induction s with
  | nil => exact absurd rfl h
  | cons c r ih =>
    by_cases hc : c = 32
    · subst hc
      rw [spR_cons] at h ⊢
      rw [List.cons_append, spR_cons]
      exact ih h
    · rw [List.cons_append, spR_stop hc, spR_stop hc]
      rfl
theorem trimR_app (s : Bs) : ∀ k, Lib.trimRightB (s ++ spcs k) 32 = Lib.trimRightB s 32
  | 0 => by simp
  | k + 1 => by
    rw [spcs, List.replicate_succ', ← List.append_assoc]
    have := trimR_app s k
    unfold Lib.trimRightB at this ⊢
    rw [List.reverse_append]
    simp only [List.reverse_cons, List.reverse_nil, List.nil_append, List.singleton_append]
    rw [List.dropWhile_cons]
    simp
theorem trimSp_app (s : Bs) (k : Nat) : trimSp (s ++ spcs k) = trimSp s := by
  unfold trimSp Lib.trimB
  rw [trimR_app]
theorem dropWhile_eq_of_head (p : UInt8 → Bool) (l : Bs) (h : ∀ c, l.head? = some c → p c = false) : l.dropWhile p = l := by
  cases l with
  | nil => rfl
  | cons c r => rw [List.dropWhile_cons, h c rfl]; rfl
theorem dropWhile_head (p : UInt8 → Bool) (l : Bs) : ∀ c, (l.dropWhile p).head? = some c → p c = false := by
  induction l with
  | nil => intro c h; cases h
  | cons x r ih =>
    intro c h
    rw [List.dropWhile_cons] at h
    split at h
    · exact ih c h
    · rename_i hx
      simp only [List.head?_cons, Option.some.injEq] at h
      subst h
      simpa using hx
theorem trimR_last (s : Bs) : ∀ c, (Lib.trimRightB s 32).getLast? = some c → c ≠ 32 := by
  intro c h
  unfold Lib.trimRightB at h
  rw [List.getLast?_reverse] at h
  have := dropWhile_head (· == 32) s.reverse c h
  simpa using this
theorem trimR_of_last (s : Bs) (h : ∀ c, s.getLast? = some c → c ≠ 32) : Lib.trimRightB s 32 = s := by
  unfold Lib.trimRightB
  rw [dropWhile_eq_of_head, List.reverse_reverse]
  intro c hc
  rw [List.head?_reverse] at hc
  simpa using h c hc
theorem trimSp_id {s : Bs} (h1 : ∀ c, s.head? = some c → c ≠ 32) (h2 : ∀ c, s.getLast? = some c → c ≠ 32) : trimSp s = s := by
  unfold trimSp Lib.trimB
  rw [trimR_of_last s h2]
  unfold Lib.trimLeftB
  exact dropWhile_eq_of_head _ _ fun c hc => by simpa using h1 c hc
theorem dropWhile_last (p : UInt8 → Bool) (l : Bs) (h : l.dropWhile p ≠ []) : (l.dropWhile p).getLast? = l.getLast? := by
  induction l with
  | nil => rfl
  | cons x r ih =>
    rw [List.dropWhile_cons] at h ⊢
    split
    · rename_i hx
      rw [if_pos hx] at h
      rw [ih h]
      cases r with
      | nil => exact absurd rfl h
      | cons y t => rw [List.getLast?_cons_cons]
    · rfl
theorem trimSp_ends (s : Bs) : (∀ c, (trimSp s).head? = some c → c ≠ 32) ∧ (∀ c, (trimSp s).getLast? = some c → c ≠ 32) := by
  unfold trimSp Lib.trimB
  constructor
  · intro c h
    unfold Lib.trimLeftB at h
    have := dropWhile_head (· == 32) _ c h
    simpa using this
  · intro c h
    unfold Lib.trimLeftB at h
    by_cases hn : (Lib.trimRightB s 32).dropWhile (· == 32) = []
    · rw [hn] at h; cases h
    · rw [dropWhile_last _ _ hn] at h
      exact trimR_last s c h
theorem trimSp_idem (s : Bs) : trimSp (trimSp s) = trimSp s := trimSp_id (trimSp_ends s).1 (trimSp_ends s).2
theorem trimSp_cons {t : Bs} (h : trimSp t = t) : trimSp (32 :: t) = t := by
  have he := trimSp_ends t
  rw [h] at he
  cases t with
  | nil => rfl
  | cons c r =>
    unfold trimSp Lib.trimB
    rw [trimR_of_last _ (by rw [List.getLast?_cons_cons]; exact he.2)]
    unfold Lib.trimLeftB
    rw [List.dropWhile_cons, if_pos (by decide)]
    exact dropWhile_eq_of_head _ _ fun c hc => by simpa using he.1 c hc
/-! ### words -/
theorem takeWhile_all (p : UInt8 → Bool) (a : Bs) (h : ∀ c ∈ a, p c = true) : a.takeWhile p = a := by
  induction a with
  | nil => rfl
  | cons c r ih => rw [List.takeWhile_cons, if_pos (h c (by simp)), ih fun x hx => h x (by simp [hx])]
theorem valB_stop {a : Bs} (h : ∀ c ∈ a, c ≠ 32) (s : Bs) (hs : s = [] ∨ s.head? = some 32) : valB (a ++ s) = a ∧ valR (a ++ s) = s := by
  have h1 : valB (a ++ s) = a := by
    unfold valB
    rcases hs with rfl | hs
    · rw [List.append_nil]
      exact takeWhile_all _ a fun c hc => by simpa using h c hc
    · obtain ⟨c, r, rfl⟩ : ∃ c r, s = c :: r := by cases s with | nil => cases hs | cons c r => exact ⟨c, r, rfl⟩
      simp only [List.head?_cons, Option.some.injEq] at hs
      subst hs
      exact (takeWhile_stop _ a r 32 (fun c hc => by simpa using h c hc) rfl).1
  refine ⟨h1, ?_⟩
  unfold valR
  rw [h1]
  simp
theorem up_space (c : UInt8) : upB c ≠ 32 ↔ c ≠ 32 := u8_all (P := fun c => upB c ≠ 32 ↔ c ≠ 32) (by decide +kernel) c
theorem great_space {a b : Bs} (h : greatB a = b) (hb : ∀ c ∈ b, c ≠ 32) : ∀ c ∈ a, c ≠ 32 := by
  intro c hc
  refine (up_space c).1 (hb _ ?_)
  rw [← h]
  exact List.mem_map_of_mem hc
def isVerb (v : Nat) : Prop := 1 ≤ v ∧ v ≤ 9
theorem verb_facts : ∀ v, v < 10 → 0 < v → ((verbWs[v]?).getD []).length = 4 ∧ (∀ c ∈ (verbWs[v]?).getD [], c ≠ 32) ∧ (((List.range 10).filter fun i => decide (0 < i) && (verbWs[i]? == some ((verbWs[v]?).getD []))).getLast?.getD 0) = v := by
  decide +kernel
theorem verbN_word {v : Nat} (h0 : 0 < v) (h : v < 10) {a : Bs} (ha : greatB a = (verbWs[v]?).getD []) : verbN a = v := by
  unfold verbN
  rw [ha]
  exact (verb_facts v h h0).2.2
theorem rdWord_hit {w a : Bs} (h : greatB a = w) (s : Bs) : rdWord w (a ++ s) = some s := by
  have hl : a.length = w.length := by rw [← h]; simp [greatB]
  unfold rdWord
  rw [← hl, if_pos ⟨by simp, by simpa using h⟩]
  simp
/-! ### what is written is read -/
theorem dec_dig (n : Nat) : ∀ c ∈ decDigits n, digitsW.contains c = true := by
  induction n using Nat.strongRecOn with
  | _ n ih =>
    have hd : ∀ k, k < 10 → digitsW.contains (UInt8.ofNat (48 + k)) = true := by decide
    rw [decDigits]
    split
    · rename_i h
      intro c hc
      rw [List.mem_singleton] at hc
      subst hc
      exact hd n h
    · intro c hc
      rcases List.mem_append.1 hc with hc | hc
      · exact ih (n / 10) (by omega) c hc
      · rw [List.mem_singleton] at hc
        subst hc
        exact hd _ (by omega)
theorem numV_snoc (s : Bs) (c : UInt8) : numV (s ++ [c]) = numV s * 10 + (c.toNat - 48) := by simp [numV]
theorem numV_dec (n : Nat) : numV (decDigits n) = n := by
  induction n using Nat.strongRecOn with
  | _ n ih =>
    rw [decDigits]
    split
    · rename_i h
      have : (UInt8.ofNat (48 + n)).toNat = 48 + n := by simp; omega
      show 0 * 10 + ((UInt8.ofNat (48 + n)).toNat - 48) = n
      rw [this]; omega
    · rw [numV_snoc, ih (n / 10) (by omega)]
      have : (UInt8.ofNat (48 + n % 10)).toNat = 48 + n % 10 := by simp; omega
      rw [this]; omega
theorem dec_ne (n : Nat) : decDigits n ≠ [] := by
  rw [decDigits]
  split <;> simp
theorem nDig_le {n k : Nat} (hk : 1 ≤ k) (h : n < 10 ^ k) : Lib.nDigits n ≤ k := by
  induction k generalizing n with
  | zero => omega
  | succ k ih =>
    by_cases h10 : n < 10
    · rw [Lib.nDigits_small h10]; omega
    · rw [Lib.nDigits_big h10]
      have hk1 : 1 ≤ k := by
        rcases Nat.eq_zero_or_pos k with rfl | h0
        · simp at h; omega
        · exact h0
      have := ih hk1 (n := n / 10) (by rw [Nat.pow_succ] at h; omega)
      omega
theorem sizeOk_dec {n : Nat} (h : n ≤ 999999999999) : sizeOkB (decDigits n) = true := by
  unfold sizeOkB
  have h1 : (decDigits n).length ≤ 12 := by rw [Lib.decDigits_length]; exact nDig_le (by decide) (by omega)
  have h2 : (decDigits n).all digitsW.contains = true := List.all_eq_true.2 (dec_dig n)
  rw [h2]
  simp [h1, dec_ne]
theorem dig_space (c : UInt8) : digitsW.contains c = true → c ≠ 32 := u8_all (P := fun c => digitsW.contains c = true → c ≠ 32) (by decide +kernel) c
theorem mailL_end (f k : Nat) (size : Int) (e seen : Bool) : mailL (f + 1) (spcs k) size e seen = some (size, e) := by
  unfold mailL
  cases k with
  | zero => rfl
  | succ k =>
    rw [if_neg (by simp), if_neg (by simp [List.replicate_succ]), if_pos (spR_spcs _)]
theorem spcs_head (k : Nat) : spcs k = [] ∨ (spcs k).head? = some 32 := by
  cases k with
  | zero => exact .inl rfl
  | succ k => exact .inr rfl
def bodyP (e : Bool) : Bs := if e then bodyW else []
def sizeP (z : Int) : Bs := if 0 ≤ z then sizeW ++ decDigits z.toNat else []
theorem bodyP_head (e : Bool) (k : Nat) : bodyP e ++ spcs k = [] ∨ (bodyP e ++ spcs k).head? = some 32 := by
  cases e with
  | true => exact .inr rfl
  | false => exact spcs_head k
theorem mailL_body (f k : Nat) (size : Int) (e : Bool) : mailL (f + 2) (bodyP e ++ spcs k) size false false = some (size, e) := by
  cases e with
  | false => exact mailL_end (f + 1) k size false false
  | true =>
    have e1 : bodyP true ++ spcs k = 32 :: (bdW ++ (eightW ++ spcs k)) := rfl
    have e2 : spR (32 :: (bdW ++ (eightW ++ spcs k))) = bdW ++ (eightW ++ spcs k) := by rw [spR_cons]; exact spR_stop (by decide) _
    have e3 : rdWord szW (bdW ++ (eightW ++ spcs k)) = none := by
      unfold rdWord
      rw [if_neg]
      rintro ⟨_, h⟩
      have h2 : greatB ((bdW ++ (eightW ++ spcs k)).take szW.length) = [66, 79, 68, 89, 61] := rfl
      rw [h2] at h
      exact absurd h (by decide)
    have e4 : rdWord bdW (bdW ++ (eightW ++ spcs k)) = some (eightW ++ spcs k) := rdWord_hit (w := bdW) (a := bdW) rfl _
    obtain ⟨e5, e6⟩ := valB_stop (a := eightW) (by decide) (spcs k) (spcs_head k)
    rw [e1]
    unfold mailL
    rw [if_neg (by simp), if_neg (by simp), e2, if_neg (by simp [bdW]), e3]
    dsimp only
    rw [e4]
    dsimp only
    rw [e5, e6, if_neg (by decide), if_pos (by decide)]
    exact mailL_end f k size true true
theorem mailL_text (f k : Nat) (z : Int) (e : Bool) (h0 : -1 ≤ z) (h1 : z ≤ 999999999999) : mailL (f + 3) (sizeP z ++ (bodyP e ++ spcs k)) (-1) false false = some (z, e) := by
  by_cases hz : 0 ≤ z
  · obtain ⟨n, rfl⟩ : ∃ n : Nat, z = n := ⟨z.toNat, by omega⟩
    have hp : sizeP (n : Int) = 32 :: (szW ++ decDigits n) := by unfold sizeP; rw [if_pos hz, Int.toNat_natCast]; rfl
    have e1 : sizeP (n : Int) ++ (bodyP e ++ spcs k) = 32 :: (szW ++ (decDigits n ++ (bodyP e ++ spcs k))) := by rw [hp]; simp
    have e2 : spR (32 :: (szW ++ (decDigits n ++ (bodyP e ++ spcs k)))) = szW ++ (decDigits n ++ (bodyP e ++ spcs k)) := by rw [spR_cons]; exact spR_stop (by decide) _
    obtain ⟨e5, e6⟩ := valB_stop (a := decDigits n) (fun c hc => dig_space c (dec_dig n c hc)) (bodyP e ++ spcs k) (bodyP_head e k)
    rw [e1]
    unfold mailL
    rw [if_neg (by simp), if_neg (by simp), e2, if_neg (by simp [szW]), rdWord_hit (w := szW) (a := szW) rfl]
    dsimp only
    rw [e5, e6, if_neg, numV_dec]
    · exact mailL_body f k n e
    · rw [sizeOk_dec (by omega)]
      simp
  · have hp : sizeP z = [] := by unfold sizeP; rw [if_neg hz]
    have : z = -1 := by omega
    subst this
    rw [hp, List.nil_append]
    exact mailL_body (f + 1) k (-1) e
theorem path_head {b : Mb} (h : (mbPath b).2 = 0) : ∃ t, (mbPath b).1 = 60 :: t := by
  unfold mbPath at h ⊢
  split at h
  · rename_i hb
    rw [if_pos hb]
    exact ⟨_, rfl⟩
  · rename_i hb
    rw [if_neg hb]
    split at h
    · rename_i hm
      rw [if_pos hm]
      exact ⟨_, rfl⟩
    · exact absurd h (by decide)
theorem boxC_text {w : Bs} {c : UInt8} (hw : greatB (c :: w) = c :: w) (hc : c ≠ 32) {b : Mb} (h : (mbPath b).2 = 0) (r : Bs) : boxC (c :: w) (32 :: (c :: w) ++ ((mbPath b).1 ++ r)) = some (b, r) := by
  unfold boxC
  rw [if_pos (by simp)]
  have e1 : spR (32 :: (c :: w) ++ ((mbPath b).1 ++ r)) = (c :: w) ++ ((mbPath b).1 ++ r) := by
    rw [List.cons_append, spR_cons]
    exact spR_stop hc _
  obtain ⟨t, ht⟩ := path_head h
  rw [e1, rdWord_hit hw, Option.bind_some]
  have e2 : spR ((mbPath b).1 ++ r) = (mbPath b).1 ++ r := by rw [ht]; exact spR_stop (by decide) _
  rw [e2]
  exact rdPath_path h r
theorem noBox_eq {b : Mb} (h : noBoxE b = true) : b = ([], []) := by
  obtain ⟨x, y⟩ := b
  unfold noBoxE at h
  simp only [Bool.and_eq_true, beq_iff_eq] at h
  obtain ⟨rfl, rfl⟩ := h
  rfl
theorem dom_space {s : Bs} (h : domOk s = true) : ∀ c ∈ s, c ≠ 32 := fun c hc => u8_all (P := fun c => domC c = true → c ≠ 32) (by decide +kernel) c (domOk_all h c hc)
theorem trimSp_none {s : Bs} (h : ∀ c ∈ s, c ≠ 32) : trimSp s = s := trimSp_id (fun c hc => h c (List.mem_of_mem_head? hc)) (fun c hc => h c (List.mem_of_getLast? hc))
theorem domV_ok {s : Bs} (h : (domV s).2 = 0) : domOk s = true ∧ (domV s).1 = smallB s := by
  unfold domV at h ⊢
  split at h
  · rename_i hd
    rw [if_pos hd]
    exact ⟨hd, rfl⟩
  · exact absurd h (by decide)
/-- What is behind the verb is read as what was meant. -/
theorem moreC_text {c : Cm} (h0 : 1 ≤ c.verb) (h1 : c.verb ≤ 9) (h : (besideC c).2 = true) (k : Nat) : moreC c.verb ((besideC c).1 ++ spcs k) = some (normC c) := by
  obtain ⟨v, text, box, size, eight⟩ := c
  simp only at h0 h1
  unfold besideC at h ⊢
  dsimp only at h ⊢
  by_cases c1 : v = 1 ∨ v = 2
  · rw [if_pos c1] at h ⊢
    unfold greetC at h ⊢
    simp only [Bool.and_eq_true, beq_iff_eq, Bool.not_eq_true'] at h
    obtain ⟨h2, h3, h4, h5⟩ := h
    obtain rfl := noBox_eq h4
    subst h5
    obtain ⟨d1, d2⟩ := domV_ok h2
    unfold moreC
    rw [if_pos c1]
    dsimp only
    rw [trimSp_app, trimSp_cons (trimSp_none (dom_space d1)), if_pos h2, h3]
    unfold normC
    rw [if_neg (by dsimp only; omega)]
  rw [if_neg c1] at h ⊢
  by_cases c3 : v = 3
  · subst c3
    rw [if_pos rfl] at h ⊢
    unfold fromC at h ⊢
    simp only [Bool.and_eq_true, beq_iff_eq, decide_eq_true_eq] at h
    obtain ⟨h2, h3, h4, h5⟩ := h
    subst h3
    unfold moreC
    rw [if_neg (by decide), if_pos rfl]
    have e1 : fromW ++ (mbPath box).1 ++ (if 0 ≤ size then sizeW ++ decDigits size.toNat else []) ++ (if eight = true then bodyW else []) ++ spcs k = 32 :: fromB ++ ((mbPath box).1 ++ (sizeP size ++ (bodyP eight ++ spcs k))) := by
      simp [fromW, fromB, sizeP, bodyP]
    dsimp only
    rw [e1, show boxC fromB (32 :: fromB ++ ((mbPath box).1 ++ (sizeP size ++ (bodyP eight ++ spcs k)))) = _ from boxC_text (c := 70) (w := [82, 79, 77, 58]) rfl (by decide) h2 _, Option.bind_some]
    dsimp only
    have hf : ∃ f, (sizeP size ++ (bodyP eight ++ spcs k)).length + 1 = f + 3 ∨ (sizeP size ++ (bodyP eight ++ spcs k)).length < 2 := ⟨(sizeP size ++ (bodyP eight ++ spcs k)).length - 2, by omega⟩
    have hm : mailL ((sizeP size ++ (bodyP eight ++ spcs k)).length + 1) (sizeP size ++ (bodyP eight ++ spcs k)) (-1) false false = some (size, eight) := by
      obtain ⟨f, hf | hf⟩ := hf
      · rw [hf]
        exact mailL_text f k size eight h4 h5
      · -- nothing was said
        have hs : ¬ 0 ≤ size := fun hz => by
          have : (sizeP size).length ≥ 6 := by unfold sizeP; rw [if_pos hz]; simp [sizeW]
          simp only [List.length_append] at hf
          omega
        have he : eight = false := by
          cases eight with
          | false => rfl
          | true =>
            have : (bodyP true).length = 14 := rfl
            simp only [List.length_append] at hf
            omega
        subst he
        have hs1 : size = -1 := by omega
        subst hs1
        exact mailL_end _ k (-1) false false
    rw [hm]
    rfl
  rw [if_neg c3] at h ⊢
  by_cases c4 : v = 4
  · subst c4
    rw [if_pos rfl] at h ⊢
    unfold toC at h ⊢
    simp only [Bool.and_eq_true, beq_iff_eq, Bool.not_eq_true'] at h
    obtain ⟨h2, h3, h4, h5⟩ := h
    subst h4
    subst h5
    unfold moreC
    rw [if_neg (by decide), if_neg (by decide), if_pos rfl]
    have e1 : toW ++ (mbPath box).1 ++ spcs k = 32 :: toB ++ ((mbPath box).1 ++ spcs k) := by simp [toW, toB]
    dsimp only
    rw [e1, show boxC toB (32 :: toB ++ ((mbPath box).1 ++ spcs k)) = _ from boxC_text (c := 84) (w := [79, 58]) rfl (by decide) h2 _, Option.bind_some]
    dsimp only
    rw [if_pos ⟨h3, spR_spcs k⟩]
    rfl
  rw [if_neg c4] at h ⊢
  have hsaid : ∀ t : Bs, t = text → saidC ⟨v, text, box, size, eight⟩ = true → (v = 7 ∨ v = 9) → (v = 7 ∨ text ≠ []) → moreC v ((32 :: text) ++ spcs k) = some (normC ⟨v, text, box, size, eight⟩) := by
    rintro _ _ hs hv hn
    unfold saidC at hs
    simp only [Bool.and_eq_true, beq_iff_eq, Bool.not_eq_true'] at hs
    obtain ⟨h2, h3, h4, h5⟩ := hs
    obtain rfl := noBox_eq h4
    subst h5
    unfold moreC
    rw [if_neg c1, if_neg c3, if_neg c4, if_pos hv, trimSp_app, trimSp_cons h3, if_pos ⟨h2, hn⟩]
    unfold normC
    rw [if_neg c3]
  by_cases c9 : v = 9
  · rw [if_pos c9] at h ⊢
    simp only [Bool.and_eq_true, Bool.not_eq_true', beq_eq_false_iff_ne] at h
    exact hsaid text rfl h.1 (.inr c9) (.inr h.2)
  rw [if_neg c9] at h ⊢
  by_cases c7 : v = 7
  · rw [if_pos c7] at h ⊢
    by_cases ht : text = []
    · rw [if_pos ht] at h ⊢
      unfold bareC at h
      simp only [Bool.and_eq_true, beq_iff_eq, Bool.not_eq_true'] at h
      obtain ⟨h2, h3, h4⟩ := h
      obtain rfl := noBox_eq h3
      subst h2
      subst h4
      unfold moreC
      rw [if_neg c1, if_neg c3, if_neg c4, if_pos (.inl c7), trimSp_app, if_pos ⟨rfl, .inl c7⟩]
      unfold normC
      rw [if_neg c3]
      rfl
    · rw [if_neg ht] at h ⊢
      exact hsaid text rfl h (.inl c7) (.inl c7)
  rw [if_neg c7] at h ⊢
  unfold bareC at h
  simp only [Bool.and_eq_true, beq_iff_eq, Bool.not_eq_true'] at h
  obtain ⟨h2, h3, h4⟩ := h
  obtain rfl := noBox_eq h3
  subst h2
  subst h4
  unfold moreC
  rw [if_neg c1, if_neg c3, if_neg c4, if_neg (by omega), List.nil_append, if_pos (spR_spcs k)]
  unfold normC
  rw [if_neg c3]
theorem beside_head {c : Cm} (h : (besideC c).2 = true) : (besideC c).1 = [] ∨ (besideC c).1.head? = some 32 := by
  unfold besideC
  repeat' split
  all_goals first
    | exact .inl rfl
    | exact .inr rfl
/-- A command's line, its verb in whichever letters, spaces behind: it is read as the command. -/
theorem cmParse_text {c : Cm} {w : Bs} (h : cmWrite c = (w, 0)) {lw : Bs} (hl : greatB lw = (verbWs[c.verb.toNat]?).getD []) (k : Nat) : cmParse (lw ++ ((besideC c).1 ++ spcs k)) = (normC c, 0) := by
  unfold cmWrite at h
  split at h
  · cases h
  · rename_i hv
    split at h
    · rename_i hb
      have hv1 : 1 ≤ c.verb := by omega
      have hv2 : c.verb ≤ 9 := by omega
      have hvn : ((c.verb.toNat : Nat) : Int) = c.verb := by omega
      obtain ⟨f1, f2, f3⟩ := verb_facts c.verb.toNat (by omega) (by omega)
      have hsp := great_space hl f2
      have hhd : (besideC c).1 ++ spcs k = [] ∨ ((besideC c).1 ++ spcs k).head? = some 32 := by
        rcases beside_head hb with h | h
        · rw [h]; exact spcs_head k
        · right
          cases hbs : (besideC c).1 with
          | nil => rw [hbs] at h; cases h
          | cons x r => rw [hbs] at h; simpa using h
      obtain ⟨e1, e2⟩ := valB_stop hsp _ hhd
      have e3 := verbN_word (v := c.verb.toNat) (by omega) (by omega) hl
      unfold cmParse
      rw [e1, e2, e3, if_neg (by omega), hvn, moreC_text hv1 hv2 hb k]
    · cases h
theorem cmWrite_form {c : Cm} {w : Bs} (h : cmWrite c = (w, 0)) : w = (verbWs[c.verb.toNat]?).getD [] ++ (besideC c).1 ∧ 1 ≤ c.verb ∧ c.verb ≤ 9 ∧ (besideC c).2 = true := by
  unfold cmWrite at h
  split at h
  · cases h
  · split at h
    · rename_i hb
      exact ⟨(Prod.mk.inj h).1.symm, by omega, by omega, hb⟩
    · cases h
theorem great_word : ∀ v, v < 10 → 0 < v → greatB ((verbWs[v]?).getD []) = (verbWs[v]?).getD [] := by decide +kernel
theorem cmParse_write {c : Cm} {w : Bs} (h : cmWrite c = (w, 0)) : cmParse w = (normC c, 0) := by
  obtain ⟨hw, h1, h2, _⟩ := cmWrite_form h
  have := cmParse_text h (great_word c.verb.toNat (by omega) (by omega)) 0
  rw [hw]
  simpa using this
/-! ### what is read may be -/
theorem mailL_may : ∀ (f : Nat) (s : Bs) (size : Int) (e seen : Bool) (r : Int × Bool), mailL f s size e seen = some r → (-1 ≤ size ∧ size ≤ 999999999999) → -1 ≤ r.1 ∧ r.1 ≤ 999999999999
  | 0, _, _, _, _, _, h, _ => by cases h
  | f + 1, s, size, e, seen, r, h, hz => by
    unfold mailL at h
    split at h
    · simp only [Option.some.injEq] at h; rw [← h]; exact hz
    · split at h
      · cases h
      · split at h
        · simp only [Option.some.injEq] at h; rw [← h]; exact hz
        · split at h
          · split at h
            · cases h
            · rename_i s2 _ hn
              refine mailL_may f _ _ _ _ r h ?_
              have hok : sizeOkB (valB s2) = true := by
                cases hb : sizeOkB (valB s2) with
                | true => rfl
                | false => exact absurd (.inr hb) hn
              unfold sizeOkB at hok
              simp only [Bool.and_eq_true, decide_eq_true_eq] at hok
              have h9 : ∀ (m : Nat) (l : Bs), l.length = m → l.all digitsW.contains = true → numV l < 10 ^ m := by
                intro m
                induction m with
                | zero => intro l hl _; rw [List.eq_nil_of_length_eq_zero hl]; decide
                | succ m ih =>
                  intro l hl ha
                  rcases List.eq_nil_or_concat l with rfl | ⟨t, c, rfl⟩
                  · simp at hl
                  · rw [List.concat_eq_append] at *
                    rw [List.all_append, Bool.and_eq_true] at ha
                    have h1 := ih t (by simpa using hl) ha.1
                    have h2 : c.toNat - 48 ≤ 9 := u8_all (P := fun c => digitsW.contains c = true → c.toNat - 48 ≤ 9) (by decide +kernel) c (by simpa using ha.2)
                    rw [numV_snoc, Nat.pow_succ]
                    omega
              have h1 := h9 _ _ rfl hok.2.2
              have h2 : (10 : Nat) ^ (valB s2).length ≤ 10 ^ 12 := Nat.pow_le_pow_right (by decide) hok.2.1
              have h3 : (10 : Nat) ^ 12 = 1000000000000 := by decide
              omega
          · split at h
            · split at h
              · cases h
              · split at h
                · exact mailL_may f _ _ _ _ r h hz
                · split at h
                  · exact mailL_may f _ _ _ _ r h hz
                  · cases h
            · cases h
theorem boxC_may {w s r : Bs} {b : Mb} (h : boxC w s = some (b, r)) : (mbPath b).2 = 0 := by
  unfold boxC at h
  split at h
  · simp only [Option.bind_eq_some_iff] at h
    obtain ⟨s1, _, h⟩ := h
    exact mbPath_may (rdPath_may h)
  · cases h
theorem moreC_may {v : Int} {s : Bs} {c : Cm} (h0 : 1 ≤ v) (h1 : v ≤ 9) (h : moreC v s = some c) : c.verb = v ∧ (besideC c).2 = true ∧ normC c = c := by
  unfold moreC at h
  split at h
  · rename_i c1
    split at h
    · rename_i hd
      simp only [Option.some.injEq] at h
      subst h
      obtain ⟨d1, d2⟩ := domV_ok hd
      refine ⟨rfl, ?_, ?_⟩
      · unfold besideC
        dsimp only
        rw [if_pos c1]
        unfold greetC
        dsimp only
        rw [d2]
        have : domV (smallB (trimSp s)) = (smallB (trimSp s), 0) := by unfold domV; rw [domOk_small, if_pos d1, smallB_idem]
        rw [this]
        simp [noBoxE]
      · unfold normC
        rw [if_neg (by dsimp only; omega)]
    · cases h
  · rename_i c1
    split at h
    · rename_i c3
      subst c3
      simp only [Option.bind_eq_some_iff, Option.map_eq_some_iff] at h
      obtain ⟨q, hq, r, hr, rfl⟩ := h
      refine ⟨rfl, ?_, rfl⟩
      have h2 := mailL_may _ _ _ _ _ _ hr (by decide)
      have h3 := boxC_may (b := q.1) (r := q.2) hq
      unfold besideC
      dsimp only
      rw [if_neg (by decide), if_pos rfl]
      unfold fromC
      dsimp only
      rw [h3]
      simp [h2]
    · rename_i c3
      split at h
      · rename_i c4
        subst c4
        simp only [Option.bind_eq_some_iff] at h
        obtain ⟨q, hq, h⟩ := h
        split at h
        · rename_i hc
          simp only [Option.some.injEq] at h
          subst h
          have h3 := boxC_may (b := q.1) (r := q.2) hq
          refine ⟨rfl, ?_, rfl⟩
          unfold besideC
          dsimp only
          rw [if_neg (by decide), if_neg (by decide), if_pos rfl]
          unfold toC
          dsimp only
          rw [h3, hc.1]
          rfl
        · cases h
      · rename_i c4
        split at h
        · rename_i c79
          split at h
          · rename_i hp
            simp only [Option.some.injEq] at h
            subst h
            refine ⟨rfl, ?_, by unfold normC; rw [if_neg c3]⟩
            have hs : saidC ⟨v, trimSp s, ([], []), -1, false⟩ = true := by
              unfold saidC
              dsimp only
              rw [hp.1, trimSp_idem]
              simp [noBoxE]
            unfold besideC
            dsimp only
            rw [if_neg c1, if_neg c3, if_neg c4]
            by_cases c9 : v = 9
            · rw [if_pos c9, hs]
              rcases hp.2 with h7 | h7
              · omega
              · simp [h7]
            · rw [if_neg c9, if_pos (by omega)]
              split
              · rename_i ht
                rw [ht]
                rfl
              · exact hs
          · cases h
        · rename_i c79
          split at h
          · simp only [Option.some.injEq] at h
            subst h
            refine ⟨rfl, ?_, by unfold normC; rw [if_neg c3]⟩
            unfold besideC
            dsimp only
            rw [if_neg c1, if_neg c3, if_neg c4, if_neg (by omega), if_neg (by omega)]
            rfl
          · cases h
theorem verbN_le (s : Bs) : verbN s ≤ 9 := by
  unfold verbN
  cases h : ((List.range 10).filter fun i => decide (0 < i) && (verbWs[i]? == some (greatB s))).getLast? with
  | none => simp
  | some x =>
    have := (List.mem_filter.1 (List.mem_of_getLast? h)).1
    rw [List.mem_range] at this
    simp only [Option.getD_some]
    omega
/-- What is read is a command that may be, and its line is read as the same. -/
theorem cmParse_may {s : Bs} {d : Cm} (h : cmParse s = (d, 0)) : ∃ w, cmWrite d = (w, 0) ∧ cmParse w = (d, 0) := by
  unfold cmParse at h
  split at h
  · cases h
  · rename_i hv
    split at h
    · rename_i c hc
      simp only [Prod.mk.injEq, and_true] at h
      subst h
      have hle := verbN_le (valB s)
      obtain ⟨h1, h2, h3⟩ := moreC_may (by omega) (by omega) hc
      have hw : cmWrite c = ((verbWs[c.verb.toNat]?).getD [] ++ (besideC c).1, 0) := by
        unfold cmWrite
        rw [if_neg (by omega), if_pos h2]
      exact ⟨_, hw, by rw [cmParse_write hw, h3]⟩
    · cases h
theorem cmParse_bad {s : Bs} {d : Cm} {e : Int} (h : cmParse s = (d, e)) (he : e ≠ 0) : d = cm0 := by
  unfold cmParse at h
  split at h
  · exact (Prod.mk.inj h).1.symm
  · split at h
    · exact absurd (Prod.mk.inj h).2.symm he
    · exact (Prod.mk.inj h).1.symm
end Go.Proofs.YtapenolbbofjkaaGreatDoor
