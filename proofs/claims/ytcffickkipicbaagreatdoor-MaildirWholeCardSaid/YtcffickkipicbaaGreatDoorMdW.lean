/- maildir, plainly: names of messages, and whose name a text is. No program. maildir: Name, number. Conditions: the lengths fit. maildir: number, Parse. Conditions: the lengths fit. maildir: Parse. Conditions: the lengths fit. maildir: there, Has, Deliver. Conditions: the lengths fit. maildir: Has, Recover; names of files. Conditions: the lengths fit. maildir: compare. Conditions: names of messages. maildir: the order of names; which names are a mailbox'. Plain. No condition. -/
import Derived.Test.YtcffickkipicbaaGreatDoorBase
import Derived.Lib.ItoaNum
import Derived.Lib.ItoaMem
import Derived.Lib.ParseIntB
import Derived.Lib.IndexLaws
import Derived.Lib.IndexMore
import Derived.Test.YtcffickkipicbaaGreatDoorFmt
import Derived.Laws.RangeAny
import Derived.Test.YtcffickkipicbaaGreatDoorRow
import Derived.Test.YtcffickkipicbaaGreatDoorDiskL
/-! MdP -/
set_option linter.unusedSimpArgs false
set_option linter.unusedVariables false
set_option linter.unnecessarySimpa false
namespace Go.Proofs.YtcffickkipicbaaGreatDoor
open Go.Lib (decDigits parseUintB parseUintM nDigits)

def digB (c : UInt8) : Bool := decide (48 ≤ c.toNat) && decide (c.toNat ≤ 57)
def numRd (s : Bs) : Nat := if s.all digB then (match parseUintB 64 s with | .ok u => u | .syntax => 0 | .range => 18446744073709551615) else 0
def mdOk (box : Int) (id : Nat) (rc : Int) : Prop := 0 ≤ box ∧ box ≤ 99 ∧ 1 ≤ id ∧ id ≤ 1099511627776 ∧ 0 ≤ rc ∧ rc < 10
instance (box : Int) (id : Nat) (rc : Int) : Decidable (mdOk box id rc) := inferInstanceAs (Decidable (_ ∧ _))
def nameB (box id rc : Nat) : Bs := decDigits box ++ [47] ++ decDigits id ++ [46] ++ decDigits rc
def mdName (box : Int) (id : Nat) (rc : Int) : Bs × Int := if mdOk box id rc then (nameB box.toNat id rc.toNat, 0) else ([], 3)
def mdRead (s : Bs) : Nat × Nat × Nat := (min (numRd (Lib.cut s [47]).1) 100, numRd (Lib.cut (Lib.cut s [47]).2.1 [46]).1, min (numRd (Lib.cut (Lib.cut s [47]).2.1 [46]).2.1) 10)
def mdIs (s : Bs) : Bool := decide (mdOk (mdRead s).1 (mdRead s).2.1 (mdRead s).2.2) && (nameB (mdRead s).1 (mdRead s).2.1 (mdRead s).2.2 == s)
def mdParse (s : Bs) : Nat × Nat × Nat × Bool := if mdIs s then ((mdRead s).1, (mdRead s).2.1, (mdRead s).2.2, true) else (0, 0, 0, false)

theorem digB_of {k : Nat} (h : k < 10) : digB (UInt8.ofNat (48 + k)) = true := by
  have : (UInt8.ofNat (48 + k)).toNat = 48 + k := by simp; omega
  unfold digB
  rw [this]
  simp
  omega
theorem decDigits_dig (n : Nat) : (decDigits n).all digB = true := by
  induction n using Nat.strongRecOn with
  | _ n ih =>
    rw [decDigits]
    split
    · rename_i h
      rw [List.all_cons, digB_of h]; rfl
    · rw [List.all_append, ih (n / 10) (by omega)]
      rw [List.all_cons, digB_of (k := n % 10) (by omega)]; rfl
theorem parseUintM_snoc (M : Nat) (c : UInt8) (hc : digB c = true) : ∀ (l : Bs) (acc u : Nat), parseUintM M acc l = .ok u → u < 1844674407370955162 → u * 10 + (c.toNat - 48) ≤ M → parseUintM M acc (l ++ [c]) = .ok (u * 10 + (c.toNat - 48))
  | [], acc, u, h, hu, hM => by
    simp only [parseUintM, Lib.NumEnd.ok.injEq] at h
    subst h
    simp only [digB, Bool.and_eq_true, decide_eq_true_eq] at hc
    simp only [List.nil_append, parseUintM]
    rw [if_pos hc, if_neg (by omega), if_neg (by omega)]
  | x :: r, acc, u, h, hu, hM => by
    simp only [List.cons_append, parseUintM] at h ⊢
    split at h
    · split at h
      · cases h
      · split at h
        · cases h
        · rename_i h1 h2 h3
          rw [if_pos h1, if_neg h2, if_neg h3]
          exact parseUintM_snoc M c hc r _ u h hu hM
    · cases h
theorem parseUintM_dec (M : Nat) (hM : M ≤ 18446744073709551615) (n : Nat) (h : n ≤ M) : parseUintM M 0 (decDigits n) = .ok n := by
  induction n using Nat.strongRecOn with
  | _ n ih =>
    rw [decDigits]
    split
    · rename_i h10
      have hc := digB_of h10
      have ht : (UInt8.ofNat (48 + n)).toNat = 48 + n := by simp; omega
      have := parseUintM_snoc M _ hc [] 0 0 rfl (by decide) (by rw [ht]; omega)
      rw [ht] at this
      simpa using this
    · have hc := digB_of (k := n % 10) (by omega)
      have ht : (UInt8.ofNat (48 + n % 10)).toNat = 48 + n % 10 := by simp; omega
      have := parseUintM_snoc M _ hc _ 0 (n / 10) (ih (n / 10) (by omega) (by omega)) (by omega) (by rw [ht]; omega)
      rw [ht] at this
      rw [this]
      congr 1
      omega
theorem decDigits_ne (n : Nat) : decDigits n ≠ [] := by
  rw [decDigits]
  split <;> simp
theorem parse_dec {n : Nat} (h : n ≤ 18446744073709551615) : parseUintB 64 (decDigits n) = .ok n := by
  unfold parseUintB
  rw [if_neg (decDigits_ne n)]
  exact parseUintM_dec _ (by decide) n (by simpa using h)
theorem numRd_dec {n : Nat} (h : n ≤ 18446744073709551615) : numRd (decDigits n) = n := by
  unfold numRd
  rw [if_pos (decDigits_dig n), parse_dec h]
theorem cut_one (a r : Bs) (c : UInt8) (h : c ∉ a) : Lib.cut (a ++ c :: r) [c] = (a, r, true) := by
  have hi : Lib.index (a ++ c :: r) [c] = a.length := by
    refine Lib.index_first (by simp) (by simp [Lib.occAt]) fun j hj => ?_
    unfold Lib.occAt
    rw [List.drop_append_of_le_length (by omega)]
    obtain ⟨x, t, hx⟩ : ∃ x t, a.drop j = x :: t := by
      cases hd : a.drop j with
      | nil => rw [List.drop_eq_nil_iff] at hd; omega
      | cons x t => exact ⟨x, t, rfl⟩
    rw [hx]
    have hm : x ∈ a := List.mem_of_mem_drop (i := j) (by rw [hx]; simp)
    have hne : (c == x) = false := beq_eq_false_iff_ne.2 (fun e => h (e ▸ hm))
    rw [List.cons_append, List.isPrefixOf, hne]
    rfl
  unfold Lib.cut
  rw [hi, if_pos (by omega)]
  simp
theorem not_mem_dec {c : UInt8} (hc : digB c = false) (n : Nat) : c ∉ decDigits n := fun h => by
  have := List.all_eq_true.1 (decDigits_dig n) c h
  rw [hc] at this
  cases this
theorem mdRead_name {box id rc : Nat} (h : mdOk box id rc) : mdRead (nameB box id rc) = (box, id, rc) := by
  obtain ⟨_, h2, _, h4, _, h6⟩ := h
  have e : nameB box id rc = decDigits box ++ 47 :: (decDigits id ++ 46 :: decDigits rc) := by simp [nameB]
  unfold mdRead
  rw [e, cut_one _ _ _ (not_mem_dec (by decide) box)]
  dsimp only
  rw [cut_one _ _ _ (not_mem_dec (by decide) id)]
  dsimp only
  rw [numRd_dec (by omega), numRd_dec (by omega), numRd_dec (by omega), Nat.min_eq_left (by omega), Nat.min_eq_left (by omega)]
theorem mdIs_name {box id rc : Nat} (h : mdOk box id rc) : mdIs (nameB box id rc) = true := by
  unfold mdIs
  rw [mdRead_name h]
  simp [h]
theorem mdParse_name {box id rc : Nat} (h : mdOk box id rc) : mdParse (nameB box id rc) = (box, id, rc, true) := by
  unfold mdParse
  rw [mdIs_name h, mdRead_name h]
  rfl
theorem mdIs_sound {s : Bs} (h : mdIs s = true) : mdOk (mdRead s).1 (mdRead s).2.1 (mdRead s).2.2 ∧ s = nameB (mdRead s).1 (mdRead s).2.1 (mdRead s).2.2 := by
  unfold mdIs at h
  simp only [Bool.and_eq_true, decide_eq_true_eq, beq_iff_eq] at h
  exact ⟨h.1, h.2.symm⟩
theorem nameB_inj {a b c x y z : Nat} (h1 : mdOk a b c) (h2 : mdOk x y z) (h : nameB a b c = nameB x y z) : a = x ∧ b = y ∧ c = z := by
  have e1 := mdRead_name h1
  rw [h, mdRead_name h2] at e1
  simp only [Prod.mk.injEq] at e1
  exact ⟨e1.1.symm, e1.2.1.symm, e1.2.2.symm⟩
theorem nDigits_le {n k : Nat} (hk : 1 ≤ k) (h : n < 10 ^ k) : nDigits n ≤ k := by
  induction k generalizing n with
  | zero => omega
  | succ k ih =>
    by_cases h10 : n < 10
    · rw [Lib.nDigits_small h10]; omega
    · rw [Lib.nDigits_big h10]
      have hk1 : 1 ≤ k := by
        rcases Nat.eq_zero_or_pos k with rfl | h0
        · simp at h; omega
        · exact h0
      have := ih hk1 (n := n / 10) (by rw [Nat.pow_succ] at h; omega)
      omega
theorem decDigits_len {n k : Nat} (hk : 1 ≤ k) (h : n < 10 ^ k) : (decDigits n).length ≤ k := by
  rw [Lib.decDigits_length]
  exact nDigits_le hk h
theorem nameB_len {box id rc : Nat} (h : mdOk box id rc) : (nameB box id rc).length ≤ 18 := by
  obtain ⟨_, h2, _, h4, _, h6⟩ := h
  have l1 := decDigits_len (n := box) (k := 2) (by decide) (by omega)
  have l2 := decDigits_len (n := id) (k := 13) (by decide) (by omega)
  have l3 := decDigits_len (n := rc) (k := 1) (by decide) (by omega)
  unfold nameB
  simp only [List.length_append, List.length_cons, List.length_nil]
  omega
/-- Which of two names comes first. -/
def mdCmp (x y : Bs) : Int :=
  if (mdParse x).2.1 < (mdParse y).2.1 then -1 else if (mdParse y).2.1 < (mdParse x).2.1 then 1
  else if (mdParse x).2.2.1 < (mdParse y).2.2.1 then -1 else if (mdParse y).2.2.1 < (mdParse x).2.2.1 then 1 else 0
end Go.Proofs.YtcffickkipicbaaGreatDoor

/-! Md1 -/
namespace Go.Proofs.YtcffickkipicbaaGreatDoor
open Go.RowKit Go.Sort

set_option maxRecDepth 100000 in
theorem mdName_no1 (box : Int) (id : Nat) (rc : Int) (w : World) (h : box < 0) :
    Calls Tryz.prog 10 #[.int .i64 box, .int .u64 id, .int .i64 rc] w fun e w2 => e = .returned (.tuple #[.string ⟨#[]⟩, .int .i64 3]) ∧ w = w2 := by
  go_enter Tryz.func10, Tryz.ntmps10
  go_wp2
  go_ret2
  exact ⟨rfl, rfl⟩
set_option maxRecDepth 100000 in
theorem mdName_no2 (box : Int) (id : Nat) (rc : Int) (w : World) (h0 : 0 ≤ box) (h : 99 < box) :
    Calls Tryz.prog 10 #[.int .i64 box, .int .u64 id, .int .i64 rc] w fun e w2 => e = .returned (.tuple #[.string ⟨#[]⟩, .int .i64 3]) ∧ w = w2 := by
  go_enter Tryz.func10, Tryz.ntmps10
  go_wp2
  go_ret2
  exact ⟨rfl, rfl⟩
set_option maxRecDepth 100000 in
theorem mdName_no3 (box : Int) (id : Nat) (rc : Int) (w : World) (h0 : 0 ≤ box) (h1 : box ≤ 99) (h : id < 1) :
    Calls Tryz.prog 10 #[.int .i64 box, .int .u64 id, .int .i64 rc] w fun e w2 => e = .returned (.tuple #[.string ⟨#[]⟩, .int .i64 3]) ∧ w = w2 := by
  have h' : (id : Int) < 1 := by omega
  go_enter Tryz.func10, Tryz.ntmps10
  go_wp2
  go_ret2
  exact ⟨rfl, rfl⟩
set_option maxRecDepth 100000 in
theorem mdName_no4 (box : Int) (id : Nat) (rc : Int) (w : World) (h0 : 0 ≤ box) (h1 : box ≤ 99) (_h2 : 1 ≤ id) (h : 1099511627776 < id) :
    Calls Tryz.prog 10 #[.int .i64 box, .int .u64 id, .int .i64 rc] w fun e w2 => e = .returned (.tuple #[.string ⟨#[]⟩, .int .i64 3]) ∧ w = w2 := by
  have h2' : (1 : Int) ≤ id := by omega
  have h' : (1099511627776 : Int) < id := by omega
  go_enter Tryz.func10, Tryz.ntmps10
  go_wp2
  go_ret2
  exact ⟨rfl, rfl⟩
set_option maxRecDepth 100000 in
theorem mdName_no5 (box : Int) (id : Nat) (rc : Int) (w : World) (h0 : 0 ≤ box) (h1 : box ≤ 99) (h2 : 1 ≤ id) (h3 : id ≤ 1099511627776) (h : rc < 0) :
    Calls Tryz.prog 10 #[.int .i64 box, .int .u64 id, .int .i64 rc] w fun e w2 => e = .returned (.tuple #[.string ⟨#[]⟩, .int .i64 3]) ∧ w = w2 := by
  have h2' : (1 : Int) ≤ id := by omega
  have h3' : (id : Int) ≤ 1099511627776 := by omega
  go_enter Tryz.func10, Tryz.ntmps10
  go_wp2
  go_ret2
  exact ⟨rfl, rfl⟩
set_option maxRecDepth 100000 in
theorem mdName_no6 (box : Int) (id : Nat) (rc : Int) (w : World) (h0 : 0 ≤ box) (h1 : box ≤ 99) (h2 : 1 ≤ id) (h3 : id ≤ 1099511627776) (h4 : 0 ≤ rc) (h : 10 ≤ rc) :
    Calls Tryz.prog 10 #[.int .i64 box, .int .u64 id, .int .i64 rc] w fun e w2 => e = .returned (.tuple #[.string ⟨#[]⟩, .int .i64 3]) ∧ w = w2 := by
  have h2' : (1 : Int) ≤ id := by omega
  have h3' : (id : Int) ≤ 1099511627776 := by omega
  go_enter Tryz.func10, Tryz.ntmps10
  go_wp2
  go_ret2
  exact ⟨rfl, rfl⟩
set_option maxRecDepth 100000 in
set_option maxHeartbeats 1000000 in
theorem mdName_yes (box id rc : Nat) (w : World) (E : Env w) (h : mdOk box id rc) :
    Calls Tryz.prog 10 #[.int .i64 box, .int .u64 id, .int .i64 rc] w fun e w2 => e = .returned (.tuple #[.string ⟨(nameB box id rc).toArray⟩, .int .i64 0]) ∧ Grown w w2 := by
  have HN : Hid (nameB box id rc = Lib.decDigits box ++ 47 :: (Lib.decDigits id ++ 46 :: Lib.decDigits rc)) := by simp [nameB, Hid]
  obtain ⟨h0, h1, h2, h3, h4, h5⟩ := h
  have l1 := decDigits_len (n := box) (k := 2) (by decide) (by omega)
  have l2 := decDigits_len (n := id) (k := 13) (by decide) (by omega)
  have l3 := decDigits_len (n := rc) (k := 1) (by decide) (by omega)
  have hI1 : (1 : Int) ≤ id := by omega
  have hI2 : (id : Int) ≤ 1099511627776 := by omega
  have HF : Hid (Calls Tryz.prog 43 #[.int .u64 id, .int .i64 10] w fun e w' => e = .returned (.string ⟨(Lib.decDigits id).toArray⟩) ∧ Grown w w') := formatUint id (by omega) w E
  have HB := Lib.hid (fun (w : World) => Tryz.strconv_Itoa_small box (by omega) w)
  have HT := Lib.hid (fun (w : World) => Tryz.strconv_Itoa_small rc (by omega) w)
  generalize Lib.decDigits box = A at *
  generalize Lib.decDigits id = B at *
  generalize Lib.decDigits rc = C at *
  have a1 := add_str A [47] (by simp [maxLen]; omega)
  have a2 := add_str (A ++ [47]) B (by simp [maxLen]; omega)
  have a3 := add_str (A ++ 47 :: B) [46] (by simp [maxLen]; omega)
  have a4 := add_str (A ++ 47 :: (B ++ [46])) C (by simp [maxLen]; omega)
  clear E l1 l2 l3 h2 h3
  go_enter Tryz.func10, Tryz.ntmps10
  go_wp2_with fail
  refine (HB.out _).mono ?_
  rintro e w1 ⟨rfl, rfl⟩
  go_wp2_with fail
  refine HF.out.mono ?_
  rintro e w2 ⟨rfl, hg⟩
  have HG := Lib.hid hg
  clear hg
  go_wp2_with fail
  refine (HT.out _).mono ?_
  rintro e w3 ⟨rfl, rfl⟩
  go_wp2
  go_ret2
  rw [HN.out]
  exact ⟨rfl, HG.out⟩
theorem mdName_any (box : Int) (id : Nat) (rc : Int) (w : World) (E : Env w) :
    Calls Tryz.prog 10 #[.int .i64 box, .int .u64 id, .int .i64 rc] w fun e w2 => e = .returned (.tuple #[.string ⟨(mdName box id rc).1.toArray⟩, .int .i64 (mdName box id rc).2]) ∧ Grown w w2 := by
  by_cases h : mdOk box id rc
  · have h' := h
    obtain ⟨h0, h1, h2, h3, h4, h5⟩ := h'
    obtain ⟨b, rfl⟩ : ∃ b : Nat, box = b := ⟨box.toNat, by omega⟩
    obtain ⟨t, rfl⟩ : ∃ t : Nat, rc = t := ⟨rc.toNat, by omega⟩
    unfold mdName
    rw [if_pos h]
    exact mdName_yes b id t w E h
  · have hq : ∀ {e : Ending} {w2 : World}, (e = .returned (.tuple #[.string ⟨#[]⟩, .int .i64 3]) ∧ w = w2) → (e = .returned (.tuple #[.string ⟨(mdName box id rc).1.toArray⟩, .int .i64 (mdName box id rc).2]) ∧ Grown w w2) := fun {e w2} ⟨he, hw⟩ => by
      subst hw
      refine ⟨?_, Grown.refl _⟩
      rw [he]
      unfold mdName
      rw [if_neg h]
    by_cases c1 : box < 0
    · exact (mdName_no1 box id rc w c1).mono fun _ _ h => hq h
    by_cases c2 : 99 < box
    · exact (mdName_no2 box id rc w (by omega) c2).mono fun _ _ h => hq h
    by_cases c3 : id < 1
    · exact (mdName_no3 box id rc w (by omega) (by omega) c3).mono fun _ _ h => hq h
    by_cases c4 : 1099511627776 < id
    · exact (mdName_no4 box id rc w (by omega) (by omega) (by omega) c4).mono fun _ _ h => hq h
    by_cases c5 : rc < 0
    · exact (mdName_no5 box id rc w (by omega) (by omega) (by omega) (by omega) c5).mono fun _ _ h => hq h
    by_cases c6 : 10 ≤ rc
    · exact (mdName_no6 box id rc w (by omega) (by omega) (by omega) (by omega) (by omega) c6).mono fun _ _ h => hq h
    · exact absurd ⟨by omega, by omega, by omega, by omega, by omega, by omega⟩ h
end Go.Proofs.YtcffickkipicbaaGreatDoor

/-! Md2 -/
namespace Go.Proofs.YtcffickkipicbaaGreatDoor
open Go.RowKit Go.Sort

def parsesB (s : Bs) : Bool := match Lib.parseUintB 64 s with | .ok _ => true | _ => false
theorem parseUint_any (s : Bs) (w : World) (E : Env w) (hs : s.length ≤ 1000000) :
    Calls Tryz.prog 78 #[.string ⟨s.toArray⟩, .int .i64 10, .int .i64 64] w fun e w2 => ∃ (n : Nat) (ev : Value), e = .returned (.tuple #[.int .u64 n, ev]) ∧ n = (match Lib.parseUintB 64 s with | .ok u => u | .syntax => 0 | .range => 18446744073709551615) ∧ Ext [] w w2 ∧ (parsesB s = true → Grown w w2) := by
  have hz : (ByteArray.mk s.toArray).size = s.length := rfl
  rcases hp : Lib.parseUintB 64 s with u | _ | _
  · refine (Tryz.strconv_ParseUint_10_at64_ok ⟨s.toArray⟩ (by rw [hz]; omega) u hp w).mono ?_
    rintro e w2 ⟨rfl, h⟩
    have hg : Grown w w2 := by
      rcases h with rfl | rfl
      · exact Grown.refl _
      · exact Grown.bytes _ _ _
    exact ⟨u, _, rfl, rfl, hg.ext, fun _ => hg⟩
  · obtain ⟨ev, h1, h2⟩ := E.syn
    refine (Tryz.strconv_ParseUint_10_at64_syntax ⟨s.toArray⟩ (by rw [hz]; omega) hp ev w h1 h2).mono ?_
    rintro e w2 ⟨N, rfl, _, _, hb⟩
    exact ⟨0, _, rfl, rfl, Ext.of_below hb, fun h => by simp [parsesB, hp] at h⟩
  · obtain ⟨ev, h1, h2⟩ := E.ran
    refine (Tryz.strconv_ParseUint_10_at64_range ⟨s.toArray⟩ (by rw [hz]; omega) hp ev w h1 h2).mono ?_
    rintro e w2 ⟨N, rfl, _, _, hb⟩
    exact ⟨_, _, rfl, rfl, Ext.of_below hb, fun h => by simp [parsesB, hp] at h⟩
theorem iter_grown (w : World) (s : ByteArray) (pos : Nat) : Grown w (w.iter s pos) := (Grown.refl w).alloc _
theorem numRd_not {s : Bs} {k : Nat} (h : k < s.length) (hd : digB s[k] = false) : numRd s = 0 := by
  unfold numRd
  rw [if_neg]
  intro h2
  have := List.all_eq_true.1 h2 s[k] (List.getElem_mem h)
  rw [hd] at this
  cases this
set_option maxRecDepth 100000 in
set_option maxHeartbeats 1000000 in
theorem number_any (s : Bs) (w : World) (E : Env w) (hs : s.length ≤ 1000000) :
    Calls Tryz.prog 46 #[.string ⟨s.toArray⟩] w fun e w2 => e = .returned (.int .u64 (numRd s)) ∧ Ext [] w w2 ∧ (parsesB s = true → Grown w w2) := by
  have HP := Lib.hid (parseUint_any s (w.iter ⟨s.toArray⟩ s.length) (E.ext (iter_grown w _ _).ext) hs)
  have hz : (ByteArray.mk s.toArray).size = s.length := rfl
  have HZ := Lib.hid hz
  clear hz E
  go_enter Tryz.func46, Tryz.ntmps46
  go_wp2_with fail
  go_loopw [] (fun wr => ∃ pos : Nat, pos ≤ s.length ∧ wr = w.iter ⟨s.toArray⟩ pos ∧ (s.take pos).all digB = true) (fun wr => s.length - wr.iterPos w.heap.size)
  case atStart => exact ⟨0, Nat.zero_le _, rfl, rfl⟩
  case round =>
    obtain ⟨pos, hpos, rfl, hall⟩ := hrel
    have HALL := Lib.hid hall
    clear hall
    by_cases hlt : pos < s.length
    · have hp : pos < (ByteArray.mk s.toArray).size := hlt
      by_cases ha : s[pos].toNat < 128
      · have hnx : ∀ ty, (Instr.next (.pointer (some ⟨w.heap.size, 0, none⟩)) true ty).run Tryz.prog (w.iter ⟨s.toArray⟩ pos) = .ok (.tuple #[.bool true, .int .i64 pos, .int .i32 (s[pos].toNat : Int)]) (w.iter ⟨s.toArray⟩ (pos + 1)) := fun ty => run_next_ascii w ⟨s.toArray⟩ pos ty hp ha
        have HST : Hid (s.take (pos + 1) = s.take pos ++ [s[pos]]) := List.take_succ_eq_append_getElem hlt
        have HNO := Lib.hid (@numRd_not s pos hlt)
        generalize s[pos] = c at *
        by_cases hd : 48 ≤ c.toNat ∧ c.toNat ≤ 57
        · have HD : Hid (digB c = true) := by unfold Hid digB; simp [hd]
          have h1 : (48 : Int) ≤ c.toNat := by omega
          have h2 : (c.toNat : Int) ≤ 57 := by omega
          clear hd ha hp
          go_wp2
          go_roundw
          case rel => exact ⟨pos + 1, by omega, rfl, by rw [HST.out, List.all_append, HALL.out]; simp [HD.out]⟩
          case measure => simp; omega
        · have HD : Hid (numRd s = 0) := HNO.out (by unfold digB; simp; omega)
          by_cases h1 : c.toNat < 48
          · have h1' : (c.toNat : Int) < 48 := by omega
            clear hd ha hp
            go_wp2
            go_ret
            rw [HD.out]
            exact ⟨rfl, (iter_grown w _ _).ext, fun _ => iter_grown w _ _⟩
          · have h1' : (48 : Int) ≤ c.toNat := by omega
            have h2 : (57 : Int) < c.toNat := by omega
            clear hd ha hp
            go_wp2
            go_ret
            rw [HD.out]
            exact ⟨rfl, (iter_grown w _ _).ext, fun _ => iter_grown w _ _⟩
      · have HD : Hid (numRd s = 0) := numRd_not hlt (by unfold digB; simp; omega)
        have hnx := fun ty => run_next_any (P := Tryz.prog) w ⟨s.toArray⟩ pos ty hp
        have hd1 := (decode_high ⟨s.toArray⟩ pos hp (by have : 128 ≤ s[pos].toNat := by omega
                                                        exact this)).1
        generalize Utf8.decode ⟨s.toArray⟩ pos = d at *
        obtain ⟨r, k⟩ := d
        dsimp only at *
        have h1 : (48 : Int) ≤ r := by omega
        have h2 : (57 : Int) < r := by omega
        clear ha hd1 hp
        go_wp2
        go_ret
        rw [HD.out]
        exact ⟨rfl, (iter_grown w _ _).ext, fun _ => iter_grown w _ _⟩
    · obtain rfl : pos = s.length := by omega
      have hnx := fun ty => run_next_end (P := Tryz.prog) w ⟨s.toArray⟩ s.length ty (by have := HZ.out; omega)
      have HV : Hid (numRd s = (match Lib.parseUintB 64 s with | .ok u => u | .syntax => 0 | .range => 18446744073709551615)) := by
        have := HALL.out
        rw [List.take_length] at this
        unfold numRd
        rw [if_pos this]
        exact Eq.refl _
      go_wp2_with fail
      refine HP.out.mono ?_
      rintro e w2 ⟨n, ev, rfl, hn, hx, hg⟩
      have HN := Lib.hid hn
      have HX := Lib.hid hx
      have HG := Lib.hid hg
      clear hn hx hg hnx
      go_wp2
      go_ret
      rw [HV.out, ← HN.out]
      exact ⟨rfl, (iter_grown w _ _).ext.trans HX.out (by simp), fun h => (iter_grown w _ _).trans (HG.out h)⟩
end Go.Proofs.YtcffickkipicbaaGreatDoor

/-! Md3 -/
namespace Go.Proofs.YtcffickkipicbaaGreatDoor
open Go.RowKit Go.Sort

theorem cutAny (s : Bs) (c : UInt8) (w : World) (E : Env w) (hs : s.length ≤ 1000000) :
    Calls Tryz.prog 45 #[.string ⟨s.toArray⟩, .string ⟨#[c]⟩] w fun e w2 => e = .returned (.tuple #[.string ⟨(Lib.cut s [c]).1.toArray⟩, .string ⟨(Lib.cut s [c]).2.1.toArray⟩, .bool (Lib.cut s [c]).2.2]) ∧ Grown w w2 := by
  obtain ⟨m, hm⟩ := E.max
  exact (Tryz.strings_Cut ⟨s.toArray⟩ ⟨#[c]⟩ m w (by show s.length < _; omega) hm).mono fun e w2 ⟨he, n, hw⟩ => ⟨he, by rw [hw]; exact (Grown.refl w).drewN n⟩
theorem cut_len (s : Bs) (c : UInt8) : (Lib.cut s [c]).1.length ≤ s.length ∧ (Lib.cut s [c]).2.1.length ≤ s.length := by
  unfold Lib.cut
  split
  · simp only [List.length_take, List.length_drop]
    omega
  · simp
theorem numRd_le (s : Bs) : numRd s ≤ 18446744073709551615 := by
  unfold numRd
  split
  · split
    · rename_i u h
      have := Lib.parseUintB_le h
      simpa using this
    · omega
    · omega
  · omega
theorem mdIs_parses {s : Bs} (h : mdIs s = true) : parsesB (Lib.cut s [47]).1 = true ∧ parsesB (Lib.cut (Lib.cut s [47]).2.1 [46]).1 = true ∧ parsesB (Lib.cut (Lib.cut s [47]).2.1 [46]).2.1 = true := by
  obtain ⟨hok, hs⟩ := mdIs_sound h
  generalize (mdRead s).1 = box at *
  generalize (mdRead s).2.1 = id at *
  generalize (mdRead s).2.2 = rc at *
  obtain ⟨_, h2, _, h4, _, h6⟩ := hok
  have e : nameB box id rc = Lib.decDigits box ++ 47 :: (Lib.decDigits id ++ 46 :: Lib.decDigits rc) := by simp [nameB]
  rw [hs, e, cut_one _ _ _ (not_mem_dec (by decide) box)]
  dsimp only
  rw [cut_one _ _ _ (not_mem_dec (by decide) id)]
  unfold parsesB
  dsimp only
  rw [parse_dec (by omega), parse_dec (by omega), parse_dec (by omega)]
  exact ⟨rfl, rfl, rfl⟩
set_option maxRecDepth 100000 in
set_option maxHeartbeats 2000000 in
theorem mdParse_any (s : Bs) (w : World) (E : Env w) (hs : s.length ≤ 1000000) :
    Calls Tryz.prog 12 #[.string ⟨s.toArray⟩] w fun e w2 => e = .returned (.tuple #[.int .i64 (mdParse s).1, .int .u64 (mdParse s).2.1, .int .i64 (mdParse s).2.2.1, .bool (mdParse s).2.2.2]) ∧ Ext [] w w2 ∧ (mdIs s = true → Grown w w2) := by
  have HE := Lib.hid E
  have HMP : Hid (mdIs s = true → _) := Lib.hid (@mdIs_parses s)
  have HRD : Hid (mdRead s = (min (numRd (Lib.cut s [47]).1) 100, numRd (Lib.cut (Lib.cut s [47]).2.1 [46]).1, min (numRd (Lib.cut (Lib.cut s [47]).2.1 [46]).2.1) 10)) := rfl
  have HC1 := Lib.hid (cutAny s 47 w E hs)
  have HL1 := Lib.hid (cut_len s 47)
  generalize Lib.cut s [47] = c1 at *
  obtain ⟨a, rest, f1⟩ := c1
  dsimp only at *
  have HL2 := Lib.hid (cut_len rest 46)
  have HC2 : Hid (∀ w2, Ext [] w w2 → _) := Lib.hid (fun w2 (hx : Ext [] w w2) => cutAny rest 46 w2 (E.ext hx) (by have := HL1.out; omega))
  generalize Lib.cut rest [46] = c2 at *
  obtain ⟨b, c, f2⟩ := c2
  dsimp only at *
  clear E
  go_enter Tryz.func12, Tryz.ntmps12
  go_wp2_with fail
  refine HC1.out.mono ?_
  rintro e w1 ⟨rfl, hg1⟩
  have HG1 := Lib.hid hg1
  clear hg1
  go_wp2_with fail
  refine (HC2.out _ HG1.out.ext).mono ?_
  rintro e w2 ⟨rfl, hg2⟩
  have HG2 := Lib.hid (HG1.out.trans hg2)
  clear hg2 HG1
  go_wp2_with fail
  refine (number_any a _ (HE.out.ext HG2.out.ext) (by have := HL1.out; omega)).mono ?_
  rintro e w3 ⟨rfl, hx3, hg3⟩
  have HX3 := Lib.hid (HG2.out.ext.trans hx3 (by simp))
  have HG3 : Hid (parsesB a = true → Grown w w3) := fun h => HG2.out.trans (hg3 h)
  clear hx3 hg3
  have hna := numRd_le a
  generalize numRd a = na at *
  go_wp2_with fail
  refine (number_any b _ (HE.out.ext HX3.out) (by have := HL1.out; have := HL2.out; omega)).mono ?_
  rintro e w4 ⟨rfl, hx4, hg4⟩
  have HX4 := Lib.hid (HX3.out.trans hx4 (by simp))
  have HG4 : Hid (parsesB a = true → parsesB b = true → Grown w w4) := fun h h2 => (HG3.out h).trans (hg4 h2)
  clear hx4 hg4 HX3 HG3
  have hnb := numRd_le b
  generalize numRd b = nb at *
  go_wp2_with fail
  refine (number_any c _ (HE.out.ext HX4.out) (by have := HL1.out; have := HL2.out; omega)).mono ?_
  rintro e w5 ⟨rfl, hx5, hg5⟩
  have HX5 := Lib.hid (HX4.out.trans hx5 (by simp))
  have HG5 : Hid (mdIs s = true → Grown w w5) := fun h => (HG4.out (HMP.out h).1 (HMP.out h).2.1).trans (hg5 (HMP.out h).2.2)
  clear hx5 hg5 HX4 HG4 HMP
  have hnc := numRd_le c
  generalize numRd c = nc at *
  go_wp2_with fail
  rw [show (min (na : Int) 100) = ((min na 100 : Nat) : Int) by omega, show (min (nc : Int) 10) = ((min nc 10 : Nat) : Int) by omega]
  generalize min na 100 = x at *
  generalize min nc 10 = z at *
  refine (mdName_any x nb z _ (HE.out.ext HX5.out)).mono ?_
  have HIS : Hid (mdIs s = (decide (mdOk x nb z) && (nameB x nb z == s))) := by unfold mdIs; rw [HRD.out]; exact Eq.refl _
  have HPS : Hid (mdParse s = if mdIs s then (x, nb, z, true) else (0, 0, 0, false)) := by unfold mdParse; rw [HRD.out]; exact Eq.refl _
  have HNM : Hid (mdName x nb z = if mdOk x nb z then (nameB x nb z, 0) else ([], 3)) := by unfold mdName; rw [Int.toNat_natCast, Int.toNat_natCast]; exact Eq.refl _
  generalize mdName x nb z = q at *
  obtain ⟨t, ec⟩ := q
  dsimp only
  rintro e w6 ⟨rfl, hg6⟩
  have HX6 := Lib.hid (HX5.out.trans hg6.ext (by simp))
  have HG6 : Hid (mdIs s = true → Grown w w6) := fun h => (HG5.out h).trans hg6
  clear hg6 HX5 HG5 hna hnb hnc
  by_cases hok : mdOk x nb z
  · have hq := HNM.out
    rw [if_pos hok] at hq
    simp only [Prod.mk.injEq] at hq
    obtain ⟨rfl, rfl⟩ := hq
    by_cases hs2 : nameB x nb z = s
    · have HI : Hid (mdIs s = true) := by rw [HIS.out, hs2]; simp [hok, Hid]
      have HV : Hid (mdParse s = (x, nb, z, true)) := by rw [HPS.out, HI.out]; exact Eq.refl _
      have t1 : (nameB x nb z == s) = true := by simpa using hs2
      clear hok hs2 HIS HPS HNM
      go_wp2
      refine bodyPost_ret (v := .tuple #[.int .i64 x, .int .u64 nb, .int .i64 z, .bool true]) (by simp [results, Tryz.results12, go_sem]) rfl ⟨by rw [HV.out], HX6.out, HG6.out⟩
    · have HI : Hid (mdIs s = false) := by rw [HIS.out]; simp [hs2, Hid]
      have HV : Hid (mdParse s = (0, 0, 0, false)) := by rw [HPS.out, HI.out]; exact Eq.refl _
      have t1 : (nameB x nb z == s) = false := by simpa using hs2
      clear hok hs2 HIS HPS HNM
      go_wp2
      refine bodyPost_ret (v := .tuple #[.int .i64 0, .int .u64 0, .int .i64 0, .bool false]) (by simp [results, Tryz.results12, go_sem]) rfl ⟨by rw [HV.out] <;> rfl, HX6.out, HG6.out⟩
  · have hq := HNM.out
    rw [if_neg hok] at hq
    simp only [Prod.mk.injEq] at hq
    obtain ⟨rfl, rfl⟩ := hq
    have HI : Hid (mdIs s = false) := by rw [HIS.out]; simp [hok, Hid]
    have HV : Hid (mdParse s = (0, 0, 0, false)) := by rw [HPS.out, HI.out]; exact Eq.refl _
    clear hok HIS HPS HNM
    go_wp2
    refine bodyPost_ret (v := .tuple #[.int .i64 0, .int .u64 0, .int .i64 0, .bool false]) (by simp [results, Tryz.results12, go_sem]) rfl ⟨by rw [HV.out] <;> rfl, HX6.out, HG6.out⟩
end Go.Proofs.YtcffickkipicbaaGreatDoor

/-! Md4 -/
namespace Go.Proofs.YtcffickkipicbaaGreatDoor
open Go.RowKit Go.Sort Go.Maps

def newB : Bs := [110, 101, 119, 47]
def tmpB : Bs := [116, 109, 112, 47]
def mdHas (D : Dk) (box : Int) (id : Nat) (rc : Int) : Bool := decide ((mdName box id rc).2 = 0) && D.now.has (newB ++ (mdName box id rc).1)
def mdLay (D : Dk) (nm text : Bs) : Dk × Int :=
  if (D.write (tmpB ++ nm) text).2 ≠ 0 then D.write (tmpB ++ nm) text
  else if ((D.write (tmpB ++ nm) text).1.sync).2 ≠ 0 then (D.write (tmpB ++ nm) text).1.sync
  else if (((D.write (tmpB ++ nm) text).1.sync).1.rename (tmpB ++ nm) (newB ++ nm)).2 ≠ 0 then ((D.write (tmpB ++ nm) text).1.sync).1.rename (tmpB ++ nm) (newB ++ nm)
  else (((D.write (tmpB ++ nm) text).1.sync).1.rename (tmpB ++ nm) (newB ++ nm)).1.sync
def mdDeliver (D : Dk) (box : Int) (id : Nat) (rc : Int) (text : Bs) : Dk × Int :=
  if (mdName box id rc).2 ≠ 0 then (D, (mdName box id rc).2)
  else if D.now.has (newB ++ (mdName box id rc).1) then (D, 0)
  else mdLay D (mdName box id rc).1 text
def mdRemoves : List Bs → Dk → Dk × Int
  | [], D => (D, 0)
  | n :: r, D => if (D.remove n).2 ≠ 0 then D.remove n else mdRemoves r (D.remove n).1
def mdRecover (D : Dk) : Dk × Int :=
  if (mdRemoves (D.now.names tmpB) D).2 ≠ 0 then mdRemoves (D.now.names tmpB) D
  else if D.now.names tmpB = [] then ((mdRemoves (D.now.names tmpB) D).1, 0)
  else (mdRemoves (D.now.names tmpB) D).1.sync
theorem Dk.Ok.rename {D : Dk} {m : Nat} (h : D.Ok m) (n t : Bs) : (D.rename n t).1.Ok (m + 1 + n.length + t.length) := by
  unfold Dk.rename
  split
  · split
    · exact (h.done ⟨3, n, t, []⟩ (by simp)).mono (by simp)
    · exact h.mono (by omega)
  · exact h.mono (by omega)
theorem Dk.Ok.remove {D : Dk} {m : Nat} (h : D.Ok m) (n : Bs) : (D.remove n).1.Ok (m + 1 + n.length) := by
  unfold Dk.remove
  split
  · exact (h.done ⟨4, n, [], []⟩ (by simp)).mono (by simp)
  · exact h.mono (by omega)
theorem mdName_len (box : Int) (id : Nat) (rc : Int) : (mdName box id rc).1.length ≤ 18 := by
  unfold mdName
  split
  · rename_i h
    obtain ⟨h0, h1, h2, h3, h4, h5⟩ := h
    exact nameB_len ⟨by omega, by omega, h2, h3, by omega, by omega⟩
  · simp
theorem mdLay_ok {D : Dk} {m : Nat} (h : D.Ok m) (nm text : Bs) : (mdLay D nm text).1.Ok (m + 20 + 3 * nm.length + text.length) := by
  have h1 := h.write (tmpB ++ nm) text
  have h2 := h1.sync
  have h3 := h2.rename (tmpB ++ nm) (newB ++ nm)
  have h4 := h3.sync
  simp only [List.length_append] at h1 h2 h3 h4
  unfold mdLay
  split
  · exact h1.mono (by simp [tmpB]; omega)
  · split
    · exact h2.mono (by simp [tmpB]; omega)
    · split
      · exact h3.mono (by simp [tmpB, newB]; omega)
      · exact h4.mono (by simp [tmpB, newB]; omega)
theorem mdDeliver_ok {D : Dk} {m : Nat} (h : D.Ok m) (box : Int) (id : Nat) (rc : Int) (text : Bs) : (mdDeliver D box id rc text).1.Ok (m + 100 + text.length) := by
  have hl := mdName_len box id rc
  unfold mdDeliver
  split
  · exact h.mono (by omega)
  · split
    · exact h.mono (by omega)
    · exact (mdLay_ok h _ _).mono (by omega)

section
variable {w0 w : World} {L : List Res} {p : Nat} {D : Dk}
set_option maxRecDepth 100000 in
theorem thereS {F0 : List Nat} (n : Bs) (S : Sp w0 F0 w (diskR p D :: L)) (hn : n.length ≤ maxLen) : Calls Tryz.prog 48 #[.pointer (some ⟨p, 0, none⟩), .string ⟨n.toArray⟩] w fun e w2 => e = .returned (.bool (D.now.has n)) ∧ w = w2 := by
  have HR := Lib.hid (readS n S hn)
  generalize D.now.has n = bh at *
  clear S
  go_enter Tryz.func48, Tryz.ntmps48
  go_wp2_with fail
  refine HR.out.mono ?_
  rintro e w2 ⟨rfl, rfl⟩
  cases bh with
  | true =>
    go_wp2
    go_ret
    exact ⟨rfl, rfl⟩
  | false =>
    go_wp2
    go_ret
    exact ⟨rfl, rfl⟩
theorem mdNameS (box : Int) (id : Nat) (rc : Int) (S : Sp w0 [] w L) (E : Env w0) :
    Calls Tryz.prog 10 #[.int .i64 box, .int .u64 id, .int .i64 rc] w fun e w2 => e = .returned (.tuple #[.string ⟨(mdName box id rc).1.toArray⟩, .int .i64 (mdName box id rc).2]) ∧ Sp w0 [] w2 L :=
  (mdName_any box id rc w (E.sp S)).mono fun _ _ ⟨he, hg⟩ => ⟨he, S.ext0 hg.ext⟩
theorem mdParseS (s : Bs) (S : Sp w0 [] w L) (E : Env w0) (hs : s.length ≤ 1000000) :
    Calls Tryz.prog 12 #[.string ⟨s.toArray⟩] w fun e w2 => e = .returned (.tuple #[.int .i64 (mdParse s).1, .int .u64 (mdParse s).2.1, .int .i64 (mdParse s).2.2.1, .bool (mdParse s).2.2.2]) ∧ Sp w0 [] w2 L :=
  (mdParse_any s w (E.sp S) hs).mono fun _ _ ⟨he, hx, _⟩ => ⟨he, S.ext0 hx⟩
set_option maxRecDepth 100000 in
set_option maxHeartbeats 1000000 in
theorem mdDeliverS (box : Int) (id : Nat) (rc : Int) (text : Bs) (m : Nat) (S : Sp w0 [] w (diskR p D :: L)) (E : Env w0) (hD : D.Ok m) (hm : m ≤ 800000000) (ht : text.length ≤ 1000000) :
    Calls Tryz.prog 16 #[.pointer (some ⟨p, 0, none⟩), .int .i64 box, .int .u64 id, .int .i64 rc, .string ⟨text.toArray⟩] w fun e w2 => e = .returned (.int .i64 (mdDeliver D box id rc text).2) ∧ Sp w0 [] w2 (diskR p (mdDeliver D box id rc text).1 :: L) := by
  have HN := Lib.hid (mdNameS box id rc S E)
  have HDL : Hid (mdDeliver D box id rc text = if (mdName box id rc).2 ≠ 0 then (D, (mdName box id rc).2) else if D.now.has (newB ++ (mdName box id rc).1) then (D, 0) else mdLay D (mdName box id rc).1 text) := rfl
  have hl := mdName_len box id rc
  generalize mdName box id rc = q at *
  obtain ⟨nm, ec⟩ := q
  dsimp only at *
  have hb1 := hD.write (tmpB ++ nm) text
  have HA := Lib.hid (hD.small (by omega))
  have HB := Lib.hid (hb1.small (by simp [tmpB]; omega))
  have HC := Lib.hid (hb1.sync.small (by simp [tmpB]; omega))
  have HE := Lib.hid ((hb1.sync.rename (tmpB ++ nm) (newB ++ nm)).small (by simp [tmpB, newB]; omega))
  have HLY : Hid (mdLay D nm text = _) := Lib.hid (mdLay.eq_1 D nm text)
  have a1 := add_str newB nm (by simp [newB, maxLen]; omega)
  have a2 := add_str tmpB nm (by simp [tmpB, maxLen]; omega)
  have HL1 : Hid ((newB ++ nm).length ≤ 1000) := by simp [newB, Hid]; omega
  have HL2 : Hid ((tmpB ++ nm).length ≤ 1000) := by simp [tmpB, Hid]; omega
  have HT := Lib.hid ht
  unfold newB at a1
  unfold tmpB at a2
  generalize hx : newB ++ nm = xn at *
  generalize hy : tmpB ++ nm = xt at *
  have ex : [110, 101, 119, 47] ++ nm = xn := hx
  have ey : [116, 109, 112, 47] ++ nm = xt := hy
  rw [ex] at a1
  rw [ey] at a2
  clear S E hD hm ht hl hb1 hx hy ex ey
  go_enter Tryz.func16, Tryz.ntmps16
  go_wp2_with fail
  refine HN.out.mono ?_
  rintro e w1 ⟨rfl, S1⟩
  have HS1 := Lib.hid S1
  clear S1 HN
  by_cases he : ec = 0
  · subst he
    rw [if_neg (by simp)] at HDL
    go_wp2_with fail
    refine (thereS xn HS1.out (by have := HL1.out; unfold maxLen; omega)).mono ?_
    rintro e wq ⟨rfl, rfl⟩
    cases hh : D.now.has xn with
    | true =>
      have HV : Hid (mdDeliver D box id rc text = (D, 0)) := by rw [HDL.out, hh]; exact Eq.refl _
      clear hh
      go_wp2
      go_ret
      rw [HV.out]
      exact ⟨rfl, HS1.out⟩
    | false =>
      have HV : Hid (mdDeliver D box id rc text = mdLay D nm text) := by rw [HDL.out, hh]; exact Eq.refl _
      clear hh HDL
      go_wp2_with fail
      refine (writeS xt text HS1.out HA.out (by have := HL2.out; omega) (by have := HT.out; omega)).mono ?_
      generalize D.write xt text = R at *
      obtain ⟨D1, e1⟩ := R
      dsimp only at *
      rintro e w2 ⟨rfl, S2⟩
      have HS2 := Lib.hid S2
      clear S2 HS1
      by_cases h1 : e1 = 0
      · subst h1
        rw [if_neg (by simp)] at HLY
        go_wp2_with fail
        refine (syncS HS2.out HB.out).mono ?_
        generalize D1.sync = R at *
        obtain ⟨D2, e2⟩ := R
        dsimp only at *
        rintro e w3 ⟨rfl, S3⟩
        have HS3 := Lib.hid S3
        clear S3 HS2
        by_cases h2 : e2 = 0
        · subst h2
          rw [if_neg (by simp)] at HLY
          go_wp2_with fail
          refine (renameS xt xn HS3.out HC.out (by have := HL2.out; omega) (by have := HL1.out; omega)).mono ?_
          generalize D2.rename xt xn = R at *
          obtain ⟨D3, e3⟩ := R
          dsimp only at *
          rintro e w4 ⟨rfl, S4⟩
          have HS4 := Lib.hid S4
          clear S4 HS3
          by_cases h3 : e3 = 0
          · subst h3
            rw [if_neg (by simp)] at HLY
            go_wp2_with fail
            refine (syncS HS4.out HE.out).mono ?_
            generalize D3.sync = R at *
            obtain ⟨D4, e4⟩ := R
            dsimp only at *
            rintro e w5 ⟨rfl, S5⟩
            have HS5 := Lib.hid S5
            clear S5 HS4
            go_wp2
            go_ret
            rw [HV.out, HLY.out]
            exact ⟨rfl, HS5.out⟩
          · have t3 : (e3 != 0) = true := by simpa using h3
            rw [if_pos h3] at HLY
            clear h3
            go_wp2
            go_ret
            rw [HV.out, HLY.out]
            exact ⟨rfl, HS4.out⟩
        · have t2 : (e2 != 0) = true := by simpa using h2
          rw [if_pos h2] at HLY
          clear h2
          go_wp2
          go_ret
          rw [HV.out, HLY.out]
          exact ⟨rfl, HS3.out⟩
      · have t1 : (e1 != 0) = true := by simpa using h1
        rw [if_pos h1] at HLY
        clear h1
        go_wp2
        go_ret
        rw [HV.out, HLY.out]
        exact ⟨rfl, HS2.out⟩
  · have t0 : (ec != 0) = true := by simpa using he
    have HV : Hid (mdDeliver D box id rc text = (D, ec)) := by rw [HDL.out, if_pos he]; exact Eq.refl _
    clear he
    go_wp2
    go_ret
    rw [HV.out]
    exact ⟨rfl, HS1.out⟩
end
end Go.Proofs.YtcffickkipicbaaGreatDoor

/-! Md5 -/
namespace Go.Proofs.YtcffickkipicbaaGreatDoor
open Go.RowKit Go.Sort Go.Maps

theorem mdRemoves_ok : ∀ (l : List Bs) (D : Dk) (m : Nat), D.Ok m → (∀ n ∈ l, n.length ≤ 1000) → (mdRemoves l D).1.Ok (m + 1001 * l.length)
  | [], D, m, h, _ => h
  | n :: r, D, m, h, hn => by
    have h1 := h.remove n
    have hl := hn n (by simp)
    unfold mdRemoves
    split
    · exact h1.mono (by simp only [List.length_cons]; omega)
    · exact (mdRemoves_ok r _ _ h1 (fun x hx => hn x (by simp [hx]))).mono (by simp only [List.length_cons]; omega)
theorem mdRecover_ok {D : Dk} {m : Nat} (h : D.Ok m) (hl : (D.now.names tmpB).length ≤ 1000) (hn : ∀ n ∈ D.now.names tmpB, n.length ≤ 1000) : (mdRecover D).1.Ok (m + 1001001) := by
  have h1 := mdRemoves_ok _ D m h hn
  unfold mdRecover
  split
  · exact h1.mono (by omega)
  · split
    · exact h1.mono (by omega)
    · exact h1.sync.mono (by omega)
section
variable {w0 w : World} {F0 : List Nat} {L : List Res} {p : Nat} {D : Dk} {v : Value} {l : List Bs}
theorem listS (pre : Bs) (S : Sp w0 F0 w (diskR p D :: L)) (hl : D.now.length < 1000000000000) :
    Calls Tryz.prog 19 #[.pointer (some ⟨p, 0, none⟩), .string ⟨pre.toArray⟩] w fun e w2 => ∃ v, e = .returned v ∧ Sp w0 F0 w2 (textsR v (D.now.names pre) :: diskR p D :: L) := by
  obtain ⟨F, h, hk⟩ := S.disk
  refine (list_any p F D pre w h hl).mono fun e w2 ⟨v, he, h1, hx, hn⟩ => ⟨v, he, ?_⟩
  exact S.gain (G := v.ownBlock.toList) hx ⟨rfl, h1⟩ (fun x hx2 => hn x (by simpa using hx2))
theorem Sp.textSlice (S : Sp w0 F0 w (textsR v l :: L)) : ∃ a cap, v = .slice a l.length cap := by
  rcases S.rowForm with ⟨rfl, h0⟩ | ⟨g, cap, rfl⟩
  · exact ⟨none, 0, by rw [h0]⟩
  · exact ⟨_, _, rfl⟩
theorem Sp.textCell {a : Option Addr} {n cap : Nat} (S : Sp w0 F0 w (textsR (.slice a n cap) l :: L)) {i : Nat} {x : Bs} (hx : l[i]? = some x) : ∃ g, a = some ⟨g, 0, none⟩ ∧ w.cell? ⟨g, i, none⟩ = some (.string ⟨x.toArray⟩) := by
  rcases S.rowForm with ⟨h, h0⟩ | ⟨g, c, h⟩
  · rw [List.eq_nil_of_length_eq_zero h0] at hx
    cases hx
  · simp only [Value.slice.injEq] at h
    obtain ⟨rfl, rfl, rfl⟩ := h
    have h2 := S.row.cells (g := g) rfl i (.string ⟨x.toArray⟩) (by rw [List.getElem?_map, hx]; rfl)
    have hadd : (⟨g, 0, none⟩ : Addr).add i = ⟨g, i, none⟩ := by unfold Addr.add; split <;> simp_all
    rw [hadd] at h2
    exact ⟨g, rfl, h2⟩
set_option maxRecDepth 100000 in
set_option maxHeartbeats 1000000 in
theorem mdRecoverS (m : Nat) (S : Sp w0 F0 w (diskR p D :: L)) (hD : D.Ok m) (hm : m ≤ 700000000) (hl : (D.now.names tmpB).length ≤ 1000) (hn : ∀ n ∈ D.now.names tmpB, n.length ≤ 1000) :
    Calls Tryz.prog 23 #[.pointer (some ⟨p, 0, none⟩)] w fun e w2 => e = .returned (.int .i64 (mdRecover D).2) ∧ Sp w0 F0 w2 (diskR p (mdRecover D).1 :: L) := by
  have HLS := Lib.hid (listS tmpB S (by have := hD.now; omega))
  have HRC : Hid (mdRecover D = _) := Lib.hid (mdRecover.eq_1 D)
  have HN := Lib.hid hn
  have HD := Lib.hid hD
  have hl' : ((D.now.names tmpB).length : Int) ≤ 1000 := by omega
  generalize D.now.names tmpB = l at *
  clear S hD hn
  go_enter Tryz.func23, Tryz.ntmps23
  go_wp2_with fail
  refine HLS.out.mono ?_
  rintro e w1 ⟨v, rfl, S1⟩
  obtain ⟨a, cap, rfl⟩ := S1.textSlice
  have HS1 := Lib.hid S1
  clear S1 HLS
  go_wp2_with fail
  go_loopw [13] (fun z wr => ∃ (i : Nat) (D2 : Dk), z = .int .i64 i ∧ i ≤ l.length ∧ D2.Ok (m + 1001 * i) ∧ mdRemoves l D = mdRemoves (l.drop i) D2 ∧ Sp w0 F0 wr (textsR (.slice a l.length cap) l :: diskR p D2 :: L)) (fun z _ => l.length - (intOf z).toNat)
  case atStart => exact ⟨0, D, rfl, by omega, HD.out.mono (by omega), rfl, HS1.out⟩
  case round =>
    obtain ⟨i, D2, rfl, hi, hok, hrm, S2⟩ := hrel
    have HOK := Lib.hid hok
    have HRM := Lib.hid hrm
    have HS2 := Lib.hid S2
    by_cases hlt : i < l.length
    · have hlt' : (i : Int) < l.length := by omega
      have hi0 : (0 : Int) ≤ i := by omega
      obtain ⟨x, hx⟩ : ∃ x, l[i]? = some x := ⟨_, List.getElem?_eq_getElem hlt⟩
      obtain ⟨g, rfl, c⟩ := S2.textCell hx
      have HXL : Hid (x.length ≤ 1000) := HN.out x (List.mem_of_getElem? hx)
      have hd : l.drop i = x :: l.drop (i + 1) := by
        rw [List.drop_eq_getElem_cons hlt]
        congr 1
        rw [List.getElem?_eq_getElem hlt] at hx
        exact Option.some.inj hx
      have HR1 : Hid (mdRemoves l D = if (D2.remove x).2 ≠ 0 then D2.remove x else mdRemoves (l.drop (i + 1)) (D2.remove x).1) := by rw [HRM.out, hd]; exact Eq.refl _
      have HOK2 : Hid ((D2.remove x).1.Ok (m + 1001 * (i + 1))) := (hok.remove x).mono (by have := HXL.out; omega)
      clear S2 hok hrm hx hd HRM HS1
      go_wp2_with fail
      refine (removeS x HS2.out.pull1 (HOK.out.small (by omega)) (by have := HXL.out; omega)).mono ?_
      generalize D2.remove x = R at *
      obtain ⟨D3, e3⟩ := R
      dsimp only at *
      rintro e w3 ⟨rfl, S3⟩
      have HS3 := Lib.hid S3.pull1
      clear S3 HS2 c
      by_cases he : e3 = 0
      · subst he
        rw [if_neg (by simp)] at HR1
        go_wp2_with fail
        go_roundw
        case rel => exact ⟨i + 1, D3, by go_num, by omega, HOK2.out, HR1.out, HS3.out⟩
        case measure => simp [intOf]; omega
      · have t1 : (e3 != 0) = true := by simpa using he
        have HV : Hid (mdRecover D = (D3, e3)) := by rw [HRC.out, HR1.out, if_pos he]; simp [he, Hid]
        clear he
        go_wp2
        go_ret
        rw [HV.out]
        exact ⟨rfl, HS3.out.drop⟩
    · obtain rfl : i = l.length := by omega
      rw [List.drop_length] at HRM
      have HR1 : Hid (mdRemoves l D = (D2, 0)) := HRM.out
      clear S2 hok hrm HRM HS1
      by_cases hz : l = []
      · subst hz
        have HV : Hid (mdRecover D = (D2, 0)) := by rw [HRC.out, HR1.out]; simp [Hid]
        go_wp2
        go_ret
        rw [HV.out]
        exact ⟨rfl, HS2.out.drop⟩
      · have hpos : (0 : Int) < l.length := by have := List.length_pos_iff.2 hz; omega
        have hne : ((l.length : Int) == 0) = false := by simp; omega
        have HV : Hid (mdRecover D = D2.sync) := by rw [HRC.out, HR1.out]; simp [hz, Hid]
        clear hz
        go_wp2_with fail
        refine (syncS HS2.out.drop (HOK.out.small (by omega))).mono ?_
        generalize D2.sync = R at *
        obtain ⟨D3, e3⟩ := R
        dsimp only at *
        rintro e w3 ⟨rfl, S3⟩
        have HS3 := Lib.hid S3
        clear S3
        go_wp2
        go_ret
        rw [HV.out]
        exact ⟨rfl, HS3.out⟩
end
end Go.Proofs.YtcffickkipicbaaGreatDoor

/-! Md6 -/
namespace Go.Proofs.YtcffickkipicbaaGreatDoor
open Go.RowKit Go.Sort Go.Maps

def cmpI (x y : Int) : Int := if x < y then -1 else if y < x then 1 else 0
set_option maxRecDepth 100000 in
theorem isNaNU (x : Int) (w : World) : Calls Tryz.prog 109 #[.int .u64 x] w fun e w2 => e = .returned (.bool false) ∧ w = w2 := by
  go_enter Tryz.func109, Tryz.ntmps109
  go_wp2
  go_ret
  exact ⟨rfl, rfl⟩
set_option maxRecDepth 100000 in
theorem isNaNI (x : Int) (w : World) : Calls Tryz.prog 110 #[.int .i64 x] w fun e w2 => e = .returned (.bool false) ∧ w = w2 := by
  go_enter Tryz.func110, Tryz.ntmps110
  go_wp2
  go_ret
  exact ⟨rfl, rfl⟩
set_option maxRecDepth 100000 in
theorem cmpU (x y : Int) (w : World) : Calls Tryz.prog 83 #[.int .u64 x, .int .u64 y] w fun e w2 => e = .returned (.int .i64 (cmpI x y)) ∧ w = w2 := by
  have HC : Hid (cmpI x y = if x < y then -1 else if y < x then 1 else 0) := rfl
  have hx := isNaNU x w
  have hy := isNaNU y w
  have HX := Lib.hid hx
  have HY := Lib.hid hy
  clear hx hy
  go_enter Tryz.func83, Tryz.ntmps83
  go_wp2_with fail
  refine HX.out.mono ?_
  rintro e w1 ⟨rfl, rfl⟩
  go_wp2_with fail
  refine HY.out.mono ?_
  rintro e w1 ⟨rfl, rfl⟩
  by_cases h1 : x < y
  · go_wp2
    go_ret
    exact ⟨ret_int (by rw [HC.out, if_pos h1]), rfl⟩
  · by_cases h2 : y < x
    · go_wp2
      go_ret
      exact ⟨ret_int (by rw [HC.out, if_neg (by omega), if_pos (by omega)]), rfl⟩
    · go_wp2
      go_ret
      exact ⟨ret_int (by rw [HC.out, if_neg (by omega), if_neg (by omega)]), rfl⟩
set_option maxRecDepth 100000 in
theorem cmpInt (x y : Int) (w : World) : Calls Tryz.prog 84 #[.int .i64 x, .int .i64 y] w fun e w2 => e = .returned (.int .i64 (cmpI x y)) ∧ w = w2 := by
  have HC : Hid (cmpI x y = if x < y then -1 else if y < x then 1 else 0) := rfl
  have hx := isNaNI x w
  have hy := isNaNI y w
  have HX := Lib.hid hx
  have HY := Lib.hid hy
  clear hx hy
  go_enter Tryz.func84, Tryz.ntmps84
  go_wp2_with fail
  refine HX.out.mono ?_
  rintro e w1 ⟨rfl, rfl⟩
  go_wp2_with fail
  refine HY.out.mono ?_
  rintro e w1 ⟨rfl, rfl⟩
  by_cases h1 : x < y
  · go_wp2
    go_ret
    exact ⟨ret_int (by rw [HC.out, if_pos h1]), rfl⟩
  · by_cases h2 : y < x
    · go_wp2
      go_ret
      exact ⟨ret_int (by rw [HC.out, if_neg (by omega), if_pos (by omega)]), rfl⟩
    · go_wp2
      go_ret
      exact ⟨ret_int (by rw [HC.out, if_neg (by omega), if_neg (by omega)]), rfl⟩
set_option maxRecDepth 100000 in
set_option maxHeartbeats 1000000 in
theorem cmpOr2 (g : Nat) (a b : Int) (w : World) (h0 : w.cell? ⟨g, 0, none⟩ = some (.int .i64 a)) (h1 : w.cell? ⟨g, 1, none⟩ = some (.int .i64 b)) (r : Int) (hr : r = if a ≠ 0 then a else b) :
    Calls Tryz.prog 82 #[.slice (some ⟨g, 0, none⟩) 2 2] w fun e w2 => e = .returned (.int .i64 r) ∧ w = w2 := by
  have HR := Lib.hid hr
  clear hr
  go_enter Tryz.func82, Tryz.ntmps82
  go_wp2_with fail
  go_loop [8] (fun z => ∃ k : Nat, z = .int .i64 k ∧ k ≤ 2 ∧ (1 ≤ k → a = 0) ∧ (2 ≤ k → b = 0)) (fun z => 2 - (intOf z).toNat)
  case atStart => exact ⟨0, rfl, by omega, by omega, by omega⟩
  case round =>
    obtain ⟨k, rfl, hk, ha, hb⟩ := hrel
    obtain rfl | rfl | rfl : k = 0 ∨ k = 1 ∨ k = 2 := by omega
    · by_cases h : a = 0
      · subst h
        go_wp2
        go_round
        case rel => exact ⟨1, rfl, by omega, by simp, fun h => by omega⟩
        case measure => simp [intOf]
      · have t : (a != 0) = true := by simpa using h
        have e : r = a := by rw [HR.out, if_pos h]
        have HE := Lib.hid e
        clear e h ha hb
        go_wp2
        go_ret
        exact ⟨ret_int HE.out.symm, rfl⟩
    · obtain rfl := ha (by omega)
      by_cases h : b = 0
      · subst h
        go_wp2
        go_round
        case rel => exact ⟨2, rfl, by omega, by simp, by simp⟩
        case measure => simp [intOf]
      · have t : (b != 0) = true := by simpa using h
        have e : r = b := by rw [HR.out, if_neg (by simp)]
        have HE := Lib.hid e
        clear e h ha hb
        go_wp2
        go_ret
        exact ⟨ret_int HE.out.symm, rfl⟩
    · obtain rfl := ha (by omega)
      obtain rfl := hb (by omega)
      have HE : Hid (r = 0) := by rw [HR.out]; simp [Hid]
      go_wp2
      go_ret
      exact ⟨ret_int HE.out.symm, rfl⟩
theorem mdCmp_eq (x y : Bs) : mdCmp x y = if cmpI ((mdParse x).2.1 : Int) (mdParse y).2.1 ≠ 0 then cmpI ((mdParse x).2.1 : Int) (mdParse y).2.1 else cmpI ((mdParse x).2.2.1 : Int) (mdParse y).2.2.1 := by
  unfold mdCmp cmpI
  generalize (mdParse x).2.1 = a
  generalize (mdParse y).2.1 = b
  generalize (mdParse x).2.2.1 = c
  generalize (mdParse y).2.2.1 = d
  by_cases h1 : a < b
  · have : (a : Int) < b := by omega
    simp [h1, this]
  · by_cases h2 : b < a
    · have i1 : ¬ (a : Int) < b := by omega
      have i2 : (b : Int) < a := by omega
      simp [h1, h2, i1, i2]
    · have i1 : ¬ (a : Int) < b := by omega
      have i2 : ¬ (b : Int) < a := by omega
      simp only [h1, h2, i1, i2, if_false, ne_eq, not_true_eq_false]
      by_cases h3 : c < d
      · have : (c : Int) < d := by omega
        simp [h3, this]
      · by_cases h4 : d < c
        · have j1 : ¬ (c : Int) < d := by omega
          have j2 : (d : Int) < c := by omega
          simp [h3, h4, j1, j2]
        · have j1 : ¬ (c : Int) < d := by omega
          have j2 : ¬ (d : Int) < c := by omega
          simp [h3, h4, j1, j2]
theorem mdIs_len {s : Bs} (h : mdIs s = true) : s.length ≤ 18 := by
  obtain ⟨h1, h2⟩ := mdIs_sound h
  rw [h2]
  exact nameB_len h1
set_option maxRecDepth 100000 in
set_option maxHeartbeats 1000000 in
theorem mdCompare (x y : Bs) (hx : mdIs x = true) (hy : mdIs y = true) (w : World) (E : Env w) :
    Calls Tryz.prog 53 #[.string ⟨x.toArray⟩, .string ⟨y.toArray⟩] w fun e w2 => e = .returned (.int .i64 (mdCmp x y)) ∧ Grown w w2 := by
  have HC := Lib.hid (mdCmp_eq x y)
  have HPX := Lib.hid (mdParse_any x w E (by have := mdIs_len hx; omega))
  have HPY := Lib.hid (fun w2 (h : Ext [] w w2) => mdParse_any y w2 (E.ext h) (by have := mdIs_len hy; omega))
  have HX := Lib.hid hx
  have HY := Lib.hid hy
  generalize mdParse x = px at *
  generalize mdParse y = py at *
  obtain ⟨x1, x2, x3, x4⟩ := px
  obtain ⟨y1, y2, y3, y4⟩ := py
  dsimp only at *
  clear E hx hy
  go_enter Tryz.func53, Tryz.ntmps53
  go_wp2_with fail
  refine HPX.out.mono ?_
  rintro e w1 ⟨rfl, _, hg⟩
  have HG1 := Lib.hid (hg HX.out)
  clear hg
  go_wp2_with fail
  refine (HPY.out _ HG1.out.ext).mono ?_
  rintro e w2 ⟨rfl, _, hg⟩
  have HG2 := Lib.hid (HG1.out.trans (hg HY.out))
  clear hg
  go_wp2_with fail
  refine (cmpU _ _ _).mono ?_
  rintro e w3 ⟨rfl, rfl⟩
  go_wp2_with fail
  refine (cmpInt _ _ _).mono ?_
  rintro e w3 ⟨rfl, rfl⟩
  generalize cmpI (x2 : Int) y2 = a at *
  generalize cmpI (x3 : Int) y3 = b at *
  go_wp2_with fail
  refine (cmpOr2 _ a b _ (by simp) (by simp) (mdCmp x y) HC.out).mono ?_
  rintro e w3 ⟨rfl, rfl⟩
  go_wp2
  go_ret
  exact ⟨rfl, HG2.out.alloc _⟩
end Go.Proofs.YtcffickkipicbaaGreatDoor

/-! MdT -/
namespace Go.Proofs.YtcffickkipicbaaGreatDoor
open Go.RowKit Go.Sort Go.Maps

def mdKey (s : Bs) : Nat × Nat := ((mdParse s).2.1, (mdParse s).2.2.1)
def mdLt (x y : Bs) : Bool := decide ((mdKey x).1 < (mdKey y).1 ∨ ((mdKey x).1 = (mdKey y).1 ∧ (mdKey x).2 < (mdKey y).2))
theorem mdCmp_lt (x y : Bs) : decide (mdCmp x y < 0) = mdLt x y := by
  unfold mdCmp mdLt mdKey
  generalize (mdParse x).2.1 = a
  generalize (mdParse y).2.1 = b
  generalize (mdParse x).2.2.1 = c
  generalize (mdParse y).2.2.1 = d
  rw [decide_eq_decide]
  dsimp only
  split
  · constructor
    · intro _; left; assumption
    · intro _; decide
  · split
    · constructor
      · intro h; exact absurd h (by decide)
      · intro h; omega
    · split
      · constructor
        · intro _; right; omega
        · intro _; decide
      · split
        · constructor
          · intro h; exact absurd h (by decide)
          · intro h; omega
        · constructor
          · intro h; exact absurd h (by decide)
          · intro h; omega
def MdSorted (l l' : List Bs) : Prop := l'.Perm l ∧ l'.Pairwise fun x y => mdLt y x = false
def mdPick (box : Int) (s : Bs) : Bool := (mdParse s).2.2.2 && decide (((mdParse s).1 : Int) = box)
def mdNames (F : Fs) (box : Int) : List Bs := ((F.names newB).map (List.drop 4)).filter (mdPick box)
theorem mdParse_is (s : Bs) : (mdParse s).2.2.2 = mdIs s := by
  unfold mdParse
  cases h : mdIs s <;> simp
theorem mdNames_is {F : Fs} {box : Int} {x : Bs} (h : x ∈ mdNames F box) : mdIs x = true := by
  unfold mdNames at h
  have := (List.mem_filter.1 h).2
  unfold mdPick at this
  rw [Bool.and_eq_true, mdParse_is] at this
  exact this.1
theorem names_pre {F : Fs} {pre x : Bs} (h : x ∈ F.names pre) : pre.isPrefixOf x = true := by
  unfold Fs.names at h
  exact (List.mem_filter.1 h).2
theorem mdName_ok {box : Int} {id : Nat} {rc : Int} (h : mdOk box id rc) : mdOk (box.toNat : Int) id (rc.toNat : Int) ∧ mdName box id rc = (nameB box.toNat id rc.toNat, 0) := by
  refine ⟨?_, by unfold mdName; rw [if_pos h]⟩
  obtain ⟨h0, h1, h2, h3, h4, h5⟩ := h
  exact ⟨by omega, by omega, h2, h3, by omega, by omega⟩
end Go.Proofs.YtcffickkipicbaaGreatDoor
