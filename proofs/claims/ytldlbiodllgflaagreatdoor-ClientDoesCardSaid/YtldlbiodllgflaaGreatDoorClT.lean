/- client, plainly: what is sent are commands, one line each; the text is stuffed lines; HELO behind EHLO. No program. -/
import Derived.Test.YtldlbiodllgflaaGreatDoorClQ
import Derived.Test.YtldlbiodllgflaaGreatDoorLnQ
set_option linter.unusedSimpArgs false
set_option linter.unusedVariables false
set_option linter.unnecessarySimpa false
namespace Go.Proofs.YtldlbiodllgflaaGreatDoor

theorem shown_u8 {P : UInt8 → Bool} (h : ∀ n : Fin 256, P (UInt8.ofNat n.val) = true → shownB (UInt8.ofNat n.val) = true) (c : UInt8) : P c = true → shownB c = true := u8_all (P := fun c => P c = true → shownB c = true) h c
theorem dom_shown (c : UInt8) : domC c = true → shownB c = true := shown_u8 (P := domC) (by decide +kernel) c
theorem loc_shown (c : UInt8) : locC c = true → shownB c = true := shown_u8 (P := locC) (by decide +kernel) c
theorem digit_shown (c : UInt8) : digitsW.contains c = true → shownB c = true := shown_u8 (P := fun c => digitsW.contains c) (by decide +kernel) c
theorem shown_ne13 {c : UInt8} (h : shownB c = true) : c ≠ 13 := fun e => by subst e; exact absurd h (by decide)
theorem noCr_shown : ∀ {s : Bs}, (∀ c ∈ s, shownB c = true) → noCr s = true
  | [], _ => rfl
  | c :: r, h => by
    unfold noCr
    rw [noCr_shown fun d hd => h d (by simp [hd]), Bool.and_true]
    have := shown_ne13 (h c (by simp))
    simp [this]
theorem all_app {p : UInt8 → Bool} {a b : Bs} (ha : ∀ c ∈ a, p c = true) (hb : ∀ c ∈ b, p c = true) : ∀ c ∈ a ++ b, p c = true := fun c hc => by
  rcases List.mem_append.1 hc with h | h
  · exact ha c h
  · exact hb c h
theorem quoted_shown {s : Bs} (h : ∀ c ∈ s, shownB c = true) : ∀ c ∈ quotedB s, shownB c = true := fun c hc => by
  unfold quotedB at hc
  rcases List.mem_cons.1 hc with rfl | hc
  · decide
  · rcases List.mem_append.1 hc with hc | hc
    · obtain ⟨d, hd, hc⟩ := List.mem_flatMap.1 hc
      unfold quoteC at hc
      split at hc
      · rcases List.mem_cons.1 hc with rfl | hc
        · decide
        · rw [List.mem_singleton.1 hc]; exact h d hd
      · rw [List.mem_singleton.1 hc]; exact h d hd
    · rw [List.mem_singleton.1 hc]; decide
theorem local_shown {s : Bs} (h : localB s = true) : ∀ c ∈ s, shownB c = true := by
  unfold localB allB at h
  simp only [Bool.and_eq_true, List.all_eq_true] at h
  exact h.2.1
theorem path_shown {b : Mb} (h : (mbPath b).2 = 0) : ∀ c ∈ (mbPath b).1, shownB c = true := by
  unfold mbPath at h ⊢
  split
  · decide
  · rename_i h1
    rw [if_neg h1] at h
    split
    · rename_i hm
      unfold mbMay at hm
      simp only [Bool.and_eq_true] at hm
      intro c hc
      rcases List.mem_cons.1 hc with rfl | hc
      · decide
      · rcases List.mem_append.1 hc with hc | hc
        · unfold mbText at hc
          rcases List.mem_append.1 hc with hc | hc
          · have hs := local_shown hm.2
            split at hc
            · exact hs c hc
            · exact quoted_shown hs c hc
          · rcases List.mem_cons.1 hc with rfl | hc
            · decide
            · exact dom_shown c (domOk_all hm.1.1 c hc)
        · rw [List.mem_singleton.1 hc]; decide
    · rename_i hm
      rw [if_neg hm] at h
      cases h
/-- A domain as it should be. -/
def domFine (s : Bs) : Prop := (domV s).2 = 0 ∧ (domV s).1 = s
theorem domFine.ok {s : Bs} (h : domFine s) : domOk s = true := by
  have := h.1
  unfold domV at this
  split at this
  · assumption
  · cases this
theorem greet_write {v : Int} {host : Bs} (hv : v = 1 ∨ v = 2) (h : domFine host) : cmWrite ⟨v, host, ([], []), 0, false⟩ = ((verbWs[v.toNat]?).getD [] ++ 32 :: host, 0) := by
  unfold cmWrite
  rw [if_neg (by dsimp only; omega)]
  have hb : besideC ⟨v, host, ([], []), 0, false⟩ = (32 :: host, true) := by
    unfold besideC
    rw [if_pos hv]
    unfold greetC
    dsimp only
    rw [h.1, h.2]
    simp [noBoxE]
  rw [hb]
  rfl
theorem quit_write : cmWrite ⟨8, [], ([], []), 0, false⟩ = ([81, 85, 73, 84], 0) := by decide
theorem data_write : cmWrite ⟨5, [], ([], []), 0, false⟩ = ([68, 65, 84, 65], 0) := by decide
theorem mail_write {b : Mb} {z : Int} (h : (mbPath b).2 = 0) (h1 : -1 ≤ z) (h2 : z ≤ 999999999999) : cmWrite ⟨3, [], b, z, false⟩ = ([77, 65, 73, 76] ++ (fromW ++ (mbPath b).1 ++ (if 0 ≤ z then sizeW ++ Lib.decDigits z.toNat else [])), 0) := by
  unfold cmWrite
  rw [if_neg (by dsimp only; omega)]
  have hb : besideC ⟨3, [], b, z, false⟩ = (fromW ++ (mbPath b).1 ++ (if 0 ≤ z then sizeW ++ Lib.decDigits z.toNat else []), true) := by
    unfold besideC
    rw [if_neg (by dsimp only; omega), if_pos rfl]
    unfold fromC
    dsimp only
    rw [h, decide_eq_true h1, decide_eq_true h2]
    simp
  rw [hb]
  rfl
theorem rcpt_write {b : Mb} (h : mbMay b = true) : cmWrite ⟨4, [], b, 0, false⟩ = ([82, 67, 80, 84] ++ (toW ++ (mbPath b).1), 0) := by
  have hp := mbPath_may (.inr h)
  have hn := mbMay_ne h
  unfold cmWrite
  rw [if_neg (by dsimp only; omega)]
  have hb : besideC ⟨4, [], b, 0, false⟩ = (toW ++ (mbPath b).1, true) := by
    unfold besideC
    rw [if_neg (by dsimp only; omega), if_neg (by dsimp only; omega), if_pos rfl]
    unfold toC
    dsimp only
    rw [hp, show noBox b = false from hn]
    rfl
  rw [hb]
  rfl
/-- A line that is a command. -/
def cmdLine (s : Bs) : Prop := ∃ x, s = lnJoin [x] ∧ noCr x = true ∧ (cmParse x).2 = 0
theorem cmdLine_of {c : Cm} {w : Bs} (h : cmWrite c = (w, 0)) (hs : ∀ b ∈ w, shownB b = true) : cmdLine (lnJoin [(cmWrite c).1]) :=
  ⟨w, by rw [h], noCr_shown hs, by rw [cmParse_write h]⟩
theorem cmdLine_split {s : Bs} (h : cmdLine s) : ∃ x, crR s = ([x], []) ∧ (cmParse x).2 = 0 := by
  obtain ⟨x, rfl, h1, h2⟩ := h
  refine ⟨x, ?_, h2⟩
  have := crR_join [x] [] (by simpa using h1)
  rw [List.append_nil] at this
  rw [this]
  rfl
theorem cmdLine_ne {s : Bs} (h : cmdLine s) : s ≠ [] := by
  obtain ⟨x, rfl, _⟩ := h
  simp [lnJoin]
/-- A client whose mailboxes may be. -/
structure Cl.Fine (C : Cl) : Prop where
  host : domFine C.host
  from_ : C.from_ = ([], []) ∨ mbMay C.from_ = true
  tos : ∀ r ∈ C.tos, mbMay r.box = true
  body : bodyOk C.body = true
  blen : C.body.length ≤ 4096
theorem Cl.Fine.like {C D : Cl} (h : C.Fine) (k : C.Like D) : D.Fine :=
  ⟨by rw [k.host]; exact h.host, by rw [k.from_]; exact h.from_, fun r hr => by
    obtain ⟨r0, h0, e⟩ := k.box r hr
    rw [e]
    exact h.tos r0 h0, by rw [k.body]; exact h.body, by rw [k.body]; exact h.blen⟩
theorem const_shown {s : Bs} (h : s.all shownB = true) : ∀ c ∈ s, shownB c = true := List.all_eq_true.1 h
theorem leave_line (C : Cl) : cmdLine C.leave.2 := cmdLine_of quit_write (const_shown (by decide))
theorem fail_line (C : Cl) (cls : Int) (p : Rc → Bool) : cmdLine (C.fail cls p).2 := leave_line _
theorem greet_line {C : Cl} (h : C.Fine) {v : Int} (ph : Int) (hv : v = 1 ∨ v = 2) : cmdLine (C.greet v ph).2 := by
  refine cmdLine_of (greet_write hv h.host) (all_app ?_ ?_)
  · rcases hv with rfl | rfl
    · exact const_shown (by decide)
    · exact const_shown (by decide)
  · intro c hc
    rcases List.mem_cons.1 hc with rfl | hc
    · decide
    · exact dom_shown c (domOk_all h.host.ok c hc)
theorem mail_line {C : Cl} (h : C.Fine) {z : Int} (h1 : -1 ≤ z) (h2 : z ≤ 999999999999) : cmdLine (C.mail z).2 := by
  have hp := mbPath_may h.from_
  refine cmdLine_of (mail_write hp h1 h2) (all_app (const_shown (by decide)) (all_app (all_app (const_shown (by decide)) (path_shown hp)) ?_))
  split
  · exact all_app (const_shown (by decide)) fun c hc => digit_shown c (dec_dig _ c hc)
  · intro c hc
    cases hc
theorem rcpt_line (C : Cl) {b : Mb} (ph : Int) (h : mbMay b = true) : cmdLine (C.send ⟨4, [], b, 0, false⟩ ph).2 :=
  cmdLine_of (rcpt_write h) (all_app (const_shown (by decide)) (all_app (const_shown (by decide)) (path_shown (mbPath_may (.inr h)))))
theorem name_line {C : Cl} (h : C.Fine) : cmdLine C.name.2 := by
  unfold Cl.name
  split
  · rename_i r hr
    exact rcpt_line C 4 (h.tos r (List.mem_of_getElem? hr))
  · split
    · exact cmdLine_of data_write (const_shown (by decide))
    · exact leave_line C
theorem opening_line {C : Cl} (h : C.Fine) (cls : Int) : cmdLine (C.opening cls).2 := by
  have hb := h.blen
  unfold Cl.opening
  split
  · exact greet_line h _ (.inr rfl)
  split
  · exact mail_line h (by omega) (by omega)
  split
  · exact greet_line h _ (.inl rfl)
  split
  · exact leave_line C
  split
  · exact mail_line h (by decide) (by decide)
  split
  · exact name_line h
  · exact fail_line _ _ _
/-- What is sent: nothing, from the phase 7 on; the text, from 5 to 6; a command else. -/
theorem take_sends {C : Cl} (h : C.Fine) (hok : C.Ok) (code : Int) :
    ((C.take code).2 = [] ∧ 7 ≤ C.phase ∧ (C.take code).1.phase = 8) ∨ ((C.take code).2 = lnStuff (lnSplit C.body).1 ∧ C.phase = 5 ∧ (C.take code).1.phase = 6) ∨ (cmdLine (C.take code).2 ∧ ¬ (C.phase = 5 ∧ (C.take code).1.phase = 6)) := by
  unfold Cl.take
  split
  · rename_i h4
    refine .inr (.inr ⟨?_, by omega⟩)
    exact name_line (h.like (modify_like C _ _))
  split
  · split
    · rename_i h5 _
      exact .inr (.inl ⟨rfl, h5, rfl⟩)
    · refine .inr (.inr ⟨fail_line _ _ _, ?_⟩)
      rw [(fail_phase _ _ _).1]
      omega
  split
  · refine .inr (.inr ⟨fail_line _ _ _, ?_⟩)
    omega
  split
  · exact .inl ⟨rfl, by omega, rfl⟩
  · refine .inr (.inr ⟨opening_line h _, by omega⟩)
/-- The body's lines, stuffed, are unstuffed to the body. -/
theorem body_lines {b : Bs} (h : bodyOk b = true) : (crR b).2 = [] ∧ lnJoin (crR b).1 = b ∧ (∀ x ∈ (crR b).1, noCr x = true) ∧ crR (lnStuff (lnSplit b).1) = ((crR b).1.map dotted ++ [[46]], []) := by
  unfold bodyOk at h
  rw [lnSplit_eq] at h ⊢
  simp only [Bool.and_eq_true, beq_iff_eq] at h
  have hb := crR_back b.length b (Nat.le_refl _)
  rw [h.1, List.append_nil] at hb
  exact ⟨h.1, hb.1, hb.2, stuff_split hb.2⟩
end Go.Proofs.YtldlbiodllgflaaGreatDoor
