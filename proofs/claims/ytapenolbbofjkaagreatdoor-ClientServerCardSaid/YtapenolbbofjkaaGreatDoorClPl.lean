/- client, plainly: its phases, its recipients' states, what it sends. No program. client, plainly: codes, one after the other. No program. client, plainly: a client goes on, and is over behind as many replies as there are recipients and seven more; what becomes of recipients. No program. client, plainly: what is sent are commands, one line each; the text is stuffed lines; HELO behind EHLO. No program. -/
import Derived.Test.YtapenolbbofjkaaGreatDoorCmP
import Derived.Test.YtapenolbbofjkaaGreatDoorLnP
import Derived.Test.YtapenolbbofjkaaGreatDoorLnQ
/-! ClP -/
set_option linter.unusedSimpArgs false
set_option linter.unusedVariables false
set_option linter.unnecessarySimpa false
namespace Go.Proofs.YtapenolbbofjkaaGreatDoor

/-- A recipient: its mailbox, its state (0 waits, 1 done, 2 failed), whether it was accepted. -/
structure Rc where
  box : Mb
  state : Int
  acc : Bool
def Rc.waits (r : Rc) : Bool := r.state == 0
def Rc.taken (r : Rc) : Bool := r.state == 0 && r.acc
/-- A client. -/
structure Cl where
  host : Bs
  from_ : Mb
  tos : List Rc
  body : Bs
  phase : Int
  at_ : Nat
def Cl.send (C : Cl) (x : Cm) (ph : Int) : Cl × Bs := ({ C with phase := ph }, lnJoin [(cmWrite x).1])
def Cl.leave (C : Cl) : Cl × Bs := C.send ⟨8, [], ([], []), 0, false⟩ 7
def Cl.become (C : Cl) (st : Int) (p : Rc → Bool) : Cl := { C with tos := C.tos.map fun r => if p r then { r with state := st } else r }
def Cl.fail (C : Cl) (cls : Int) (p : Rc → Bool) : Cl × Bs := (if cls = 5 then C.become 2 p else C).leave
def Cl.greet (C : Cl) (verb ph : Int) : Cl × Bs := C.send ⟨verb, C.host, ([], []), 0, false⟩ ph
def Cl.mail (C : Cl) (size : Int) : Cl × Bs := C.send ⟨3, [], C.from_, size, false⟩ 3
def Cl.name (C : Cl) : Cl × Bs := match C.tos[C.at_]? with
  | some r => C.send ⟨4, [], r.box, 0, false⟩ 4
  | none => if C.tos.any Rc.taken then C.send ⟨5, [], ([], []), 0, false⟩ 5 else C.leave
def Cl.opening (C : Cl) (cls : Int) : Cl × Bs :=
  if C.phase = 0 ∧ cls = 2 then C.greet 2 1
  else if C.phase = 1 ∧ cls = 2 then C.mail C.body.length
  else if C.phase = 1 ∧ cls = 5 then C.greet 1 2
  else if C.phase = 1 then C.leave
  else if C.phase = 2 ∧ cls = 2 then C.mail (-1)
  else if C.phase = 3 ∧ cls = 2 then C.name
  else C.fail cls Rc.waits
def Rc.told (r : Rc) (cls : Int) : Rc := if cls = 2 then { r with acc := true } else if cls = 5 then { r with state := 2 } else r
def Cl.named (C : Cl) (cls : Int) : Cl × Bs := ({ C with tos := C.tos.modify C.at_ (·.told cls), at_ := C.at_ + 1 } : Cl).name
def Cl.take (C : Cl) (code : Int) : Cl × Bs :=
  if C.phase = 4 then C.named (classC code)
  else if C.phase = 5 then (if classC code = 3 then ({ C with phase := 6 }, lnStuff (lnSplit C.body).1) else C.fail (classC code) Rc.taken)
  else if C.phase = 6 then ((if classC code = 2 then C.become 1 Rc.taken else C).fail (classC code) Rc.taken)
  else if C.phase = 7 ∨ C.phase = 8 then ({ C with phase := 8 }, [])
  else C.opening (classC code)
def bodyOk (b : Bs) : Bool := (lnSplit b).2 == [] && (lnSplit b).1.all fun s => decide (s.length ≤ 998)
def clNew (host : Bs) (fr : Mb) (tos : List Mb) (body : Bs) : Option Cl × Int :=
  if (domV host).2 ≠ 0 ∨ (domV host).1 ≠ host ∨ (noBoxE fr = false ∧ mbMay fr = false) ∨ tos.length = 0 ∨ 10 < tos.length then (none, 1)
  else if tos.all mbMay = false then (none, 1)
  else if bodyOk body = false then (none, 2)
  else (some ⟨host, fr, tos.map fun b => ⟨b, 0, false⟩, body, 0, 0⟩, 0)
end Go.Proofs.YtapenolbbofjkaaGreatDoor

/-! ClR -/
namespace Go.Proofs.YtapenolbbofjkaaGreatDoor

/-- Codes, one after the other; then it is lost. -/
def Cl.play : Cl → List Int → Cl × Bs
  | C, [] => ({ C with phase := 8 }, [])
  | C, c :: l => if C.phase = 8 then ({ C with phase := 8 }, []) else (((C.take c).1.play l).1, (C.take c).2 ++ ((C.take c).1.play l).2)
end Go.Proofs.YtapenolbbofjkaaGreatDoor

/-! ClQ -/
namespace Go.Proofs.YtapenolbbofjkaaGreatDoor

/-- What every client that was made keeps. -/
structure Cl.Ok (C : Cl) : Prop where
  ph0 : 0 ≤ C.phase
  ph8 : C.phase ≤ 8
  at0 : C.phase ≤ 3 → C.at_ = 0
  at4 : C.phase = 4 → C.at_ < C.tos.length
  host : C.host.length ≤ 300
  fl : C.from_.1.length ≤ 300
  fd : C.from_.2.length ≤ 300
  body : C.body.length ≤ 4096
  n1 : 1 ≤ C.tos.length
  n10 : C.tos.length ≤ 10
  bx : ∀ r ∈ C.tos, r.box.1.length ≤ 300 ∧ r.box.2.length ≤ 300
  atn : C.at_ ≤ C.tos.length
/-- How far a client is. -/
def Cl.rank (C : Cl) : Nat :=
  if C.phase ≤ 3 then C.phase.toNat else if C.phase = 4 then 4 + C.at_ else (C.phase.toNat - 1) + C.tos.length
theorem become_len (C : Cl) (st : Int) (p : Rc → Bool) : (C.become st p).tos.length = C.tos.length := by simp [Cl.become]
theorem become_box (C : Cl) (st : Int) (p : Rc → Bool) : ∀ r ∈ (C.become st p).tos, ∃ r0 ∈ C.tos, r.box = r0.box := fun r hr => by
  obtain ⟨r0, h0, rfl⟩ := List.mem_map.1 hr
  refine ⟨r0, h0, ?_⟩
  split <;> rfl
/-- A client moved on: its phase, its place, its recipients' states. -/
structure Cl.Like (C D : Cl) : Prop where
  host : D.host = C.host
  from_ : D.from_ = C.from_
  body : D.body = C.body
  len : D.tos.length = C.tos.length
  box : ∀ r ∈ D.tos, ∃ r0 ∈ C.tos, r.box = r0.box
theorem Cl.Like.refl (C : Cl) : C.Like C := ⟨rfl, rfl, rfl, rfl, fun r h => ⟨r, h, rfl⟩⟩
theorem Cl.Like.trans {A B C : Cl} (h : A.Like B) (k : B.Like C) : A.Like C :=
  ⟨k.host.trans h.host, k.from_.trans h.from_, k.body.trans h.body, k.len.trans h.len, fun r hr => by
    obtain ⟨r1, h1, e1⟩ := k.box r hr
    obtain ⟨r0, h0, e0⟩ := h.box r1 h1
    exact ⟨r0, h0, e1.trans e0⟩⟩
theorem Cl.Ok.like {C D : Cl} (h : C.Ok) (k : C.Like D) (h0 : 0 ≤ D.phase) (h8 : D.phase ≤ 8) (a0 : D.phase ≤ 3 → D.at_ = 0) (a4 : D.phase = 4 → D.at_ < D.tos.length) (an : D.at_ ≤ D.tos.length) : D.Ok :=
  ⟨h0, h8, a0, a4, by rw [k.host]; exact h.host, by rw [k.from_]; exact h.fl, by rw [k.from_]; exact h.fd, by rw [k.body]; exact h.body, by rw [k.len]; exact h.n1, by rw [k.len]; exact h.n10, fun r hr => by
    obtain ⟨r0, h0, e⟩ := k.box r hr
    rw [e]
    exact h.bx r0 h0, an⟩
theorem send_like (C : Cl) (x : Cm) (ph : Int) : C.Like (C.send x ph).1 := ⟨rfl, rfl, rfl, rfl, fun r h => ⟨r, h, rfl⟩⟩
theorem become_like (C : Cl) (st : Int) (p : Rc → Bool) : C.Like (C.become st p) := ⟨rfl, rfl, rfl, become_len C st p, become_box C st p⟩
theorem fail_like (C : Cl) (cls : Int) (p : Rc → Bool) : C.Like (C.fail cls p).1 := by
  unfold Cl.fail
  split
  · exact (become_like C 2 p).trans (send_like _ _ _)
  · exact send_like _ _ _
theorem fail_phase (C : Cl) (cls : Int) (p : Rc → Bool) : (C.fail cls p).1.phase = 7 ∧ (C.fail cls p).1.at_ = C.at_ := by
  unfold Cl.fail
  split <;> exact ⟨rfl, rfl⟩
theorem name_like (C : Cl) : C.Like C.name.1 := by
  unfold Cl.name
  split
  · exact send_like _ _ _
  · split
    · exact send_like _ _ _
    · exact send_like _ _ _
theorem name_phase (C : Cl) : (C.name.1.phase = 4 ∧ C.at_ < C.tos.length ∨ C.name.1.phase = 5 ∨ C.name.1.phase = 7) ∧ C.name.1.at_ = C.at_ ∧ C.name.1.tos = C.tos := by
  unfold Cl.name
  split
  · rename_i r hr
    obtain ⟨h, _⟩ := List.getElem?_eq_some_iff.1 hr
    exact ⟨.inl ⟨rfl, h⟩, rfl, rfl⟩
  · split
    · exact ⟨.inr (.inl rfl), rfl, rfl⟩
    · exact ⟨.inr (.inr rfl), rfl, rfl⟩
theorem told_box (r : Rc) (cls : Int) : (r.told cls).box = r.box := by
  unfold Rc.told
  split
  · rfl
  · split <;> rfl
theorem modify_like (C : Cl) (cls : Int) (n : Nat) : C.Like { C with tos := C.tos.modify C.at_ (·.told cls), at_ := n } := by
  refine ⟨rfl, rfl, rfl, by simp, fun r hr => ?_⟩
  obtain ⟨i, hi, rfl⟩ := List.mem_iff_getElem.1 hr
  have hi' : i < C.tos.length := by simpa using hi
  refine ⟨C.tos[i], List.getElem_mem hi', ?_⟩
  simp only [List.getElem_modify]
  split
  · exact told_box _ _
  · rfl
theorem opening_like (C : Cl) (cls : Int) : C.Like (C.opening cls).1 := by
  unfold Cl.opening
  repeat' split
  all_goals first | exact send_like _ _ _ | exact name_like _ | exact fail_like _ _ _
theorem take_like (C : Cl) (code : Int) : C.Like (C.take code).1 := by
  unfold Cl.take
  split
  · exact (modify_like C _ _).trans (name_like _)
  · split
    · split
      · exact ⟨rfl, rfl, rfl, rfl, fun r h => ⟨r, h, rfl⟩⟩
      · exact fail_like _ _ _
    · split
      · split
        · exact (become_like C 1 _).trans (fail_like _ _ _)
        · exact fail_like _ _ _
      · split
        · exact ⟨rfl, rfl, rfl, rfl, fun r h => ⟨r, h, rfl⟩⟩
        · exact opening_like _ _
theorem opening_goes (C : Cl) (cls : Int) (h0 : 0 ≤ C.phase) (h3 : C.phase ≤ 3) :
    ((C.opening cls).1.phase = 7 ∨ (C.phase < (C.opening cls).1.phase ∧ (C.opening cls).1.phase ≤ 3) ∨ ((C.opening cls).1.phase = 4 ∧ C.at_ < C.tos.length) ∨ (C.opening cls).1.phase = 5) ∧ (C.opening cls).1.at_ = C.at_ := by
  have hf := fail_phase C cls Rc.waits
  have hn := name_phase C
  unfold Cl.opening
  split
  · rename_i h; exact ⟨.inr (.inl ⟨by show C.phase < 1; omega, (by decide : (1 : Int) ≤ 3)⟩), rfl⟩
  split
  · rename_i h; exact ⟨.inr (.inl ⟨by show C.phase < 3; omega, (by decide : (3 : Int) ≤ 3)⟩), rfl⟩
  split
  · rename_i h; exact ⟨.inr (.inl ⟨by show C.phase < 2; omega, (by decide : (2 : Int) ≤ 3)⟩), rfl⟩
  split
  · exact ⟨.inl rfl, rfl⟩
  split
  · rename_i h; exact ⟨.inr (.inl ⟨by show C.phase < 3; omega, (by decide : (3 : Int) ≤ 3)⟩), rfl⟩
  split
  · obtain ⟨h1, h2, _⟩ := hn
    refine ⟨?_, h2⟩
    rcases h1 with h1 | h1 | h1
    · exact .inr (.inr (.inl h1))
    · exact .inr (.inr (.inr h1))
    · exact .inl h1
  · exact ⟨.inl hf.1, hf.2⟩
/-- Where a client goes from a phase. -/
theorem take_goes {C : Cl} (h : C.Ok) (code : Int) : (C.take code).1.Ok ∧ ((C.take code).1.phase = 8 ∨ C.rank < (C.take code).1.rank) ∧ (C.phase ≤ (C.take code).1.phase ∨ (C.take code).1.phase = 4) := by
  have hl := take_like C code
  have hlen := hl.len
  have h0 := h.ph0
  have h8 := h.ph8
  have hat := h.at0
  have h4 := h.at4
  have hn := h.n1
  have han := h.atn
  have key : ((0 ≤ (C.take code).1.phase ∧ (C.take code).1.phase ≤ 8) ∧ ((C.take code).1.phase ≤ 3 → (C.take code).1.at_ = 0) ∧ ((C.take code).1.phase = 4 → (C.take code).1.at_ < (C.take code).1.tos.length) ∧ (C.take code).1.at_ ≤ (C.take code).1.tos.length) ∧ ((C.take code).1.phase = 8 ∨ C.rank < (C.take code).1.rank) ∧ (C.phase ≤ (C.take code).1.phase ∨ (C.take code).1.phase = 4) := by
    rw [hlen]
    unfold Cl.rank
    rw [hlen]
    unfold Cl.take at hlen ⊢
    split at hlen
    · rename_i hp
      rw [if_pos hp]
      unfold Cl.named
      have := name_phase ({ C with tos := C.tos.modify C.at_ (·.told (classC code)), at_ := C.at_ + 1 } : Cl)
      generalize Cl.name _ = q at *
      obtain ⟨h1, h2, h3⟩ := this
      dsimp only at h1 h2 h3
      rw [List.length_modify] at h1
      rw [h2]
      have := h4 hp
      rcases h1 with ⟨h1, h5⟩ | h1 | h1
      all_goals
        rw [h1]
        simp [hp]
        omega
    · rename_i hp4
      rw [if_neg hp4]
      split at hlen
      · rename_i hp
        rw [if_pos hp]
        split at hlen
        · rename_i hc
          rw [if_pos hc]
          simp [hp]
          omega
        · rename_i hc
          rw [if_neg hc]
          have := fail_phase C (classC code) Rc.taken
          rw [this.1, this.2]
          simp [hp]
          omega
      · rename_i hp5
        rw [if_neg hp5]
        split at hlen
        · rename_i hp
          rw [if_pos hp]
          have := fail_phase (if classC code = 2 then C.become 1 Rc.taken else C) (classC code) Rc.taken
          have e : (if classC code = 2 then C.become 1 Rc.taken else C).at_ = C.at_ := by split <;> rfl
          rw [this.1, this.2, e]
          simp [hp]
          omega
        · rename_i hp6
          rw [if_neg hp6]
          split at hlen
          · rename_i hp
            rw [if_pos hp]
            dsimp only
            refine ⟨⟨by omega, fun h => absurd h (by decide), fun h => absurd h (by decide), han⟩, .inl rfl, .inl (by omega)⟩
          · rename_i hp7
            rw [if_neg hp7]
            have hlo : C.phase ≤ 3 := by omega
            have ha := hat hlo
            have := opening_goes C (classC code) h0 hlo
            obtain ⟨h1, h2⟩ := this
            rw [h2]
            generalize (C.opening (classC code)).1 = q at *
            rw [if_pos hlo]
            rcases h1 with h1 | ⟨h1, h5⟩ | ⟨h1, h5⟩ | h1
            · rw [h1]; simp; omega
            · rw [if_pos h5]; refine ⟨⟨?_, ?_, ?_, ?_⟩, ?_, ?_⟩ <;> omega
            · rw [h1]; simp; omega
            · rw [h1]; simp; omega
  obtain ⟨⟨⟨k0, k8⟩, ka, k4, kn⟩, k2⟩ := key
  exact ⟨h.like hl k0 k8 ka k4 kn, k2⟩
/-- What became of recipients, and why. -/
def Cl.Just (C : Cl) (took never : Bool) : Prop := ∀ r ∈ C.tos, r.state = 0 ∨ (r.state = 1 ∧ took = true) ∨ (r.state = 2 ∧ never = true)
theorem Cl.Just.more {C : Cl} {a b a2 b2 : Bool} (h : C.Just a b) (ha : a = true → a2 = true) (hb : b = true → b2 = true) : C.Just a2 b2 := fun r hr => by
  rcases h r hr with h | ⟨h, k⟩ | ⟨h, k⟩
  · exact .inl h
  · exact .inr (.inl ⟨h, ha k⟩)
  · exact .inr (.inr ⟨h, hb k⟩)
theorem Cl.Just.become1 {C : Cl} {a b : Bool} (h : C.Just a b) (p : Rc → Bool) : (C.become 1 p).Just true b := fun r hr => by
  obtain ⟨r0, h0, rfl⟩ := List.mem_map.1 hr
  split
  · exact .inr (.inl ⟨rfl, rfl⟩)
  · exact h.more (fun _ => rfl) id r0 h0
theorem Cl.Just.become2 {C : Cl} {a b : Bool} (h : C.Just a b) (p : Rc → Bool) : (C.become 2 p).Just a true := fun r hr => by
  obtain ⟨r0, h0, rfl⟩ := List.mem_map.1 hr
  split
  · exact .inr (.inr ⟨rfl, rfl⟩)
  · exact h.more id (fun _ => rfl) r0 h0
theorem Cl.Just.fail {C : Cl} {a b : Bool} (h : C.Just a b) (cls : Int) (p : Rc → Bool) : (C.fail cls p).1.Just a (b || cls == 5) := by
  unfold Cl.fail
  split
  · rename_i h5
    subst h5
    rw [show (b || ((5 : Int) == 5)) = true by simp]
    exact h.become2 p
  · exact h.more id (fun k => by rw [k]; rfl)
theorem Cl.Just.name {C : Cl} {a b : Bool} (h : C.Just a b) : C.name.1.Just a b := by
  unfold Cl.Just
  rw [(name_phase C).2.2]
  exact h
theorem take_just {C : Cl} {a b : Bool} (h : C.Just a b) (code : Int) : (C.take code).1.Just (a || (C.phase == 6 && classC code == 2)) (b || classC code == 5) := by
  have hb : b = true → (b || classC code == 5) = true := fun k => by rw [k]; rfl
  have ha : a = true → (a || (C.phase == 6 && classC code == 2)) = true := fun k => by rw [k]; rfl
  unfold Cl.take
  split
  · unfold Cl.named
    refine Cl.Just.name fun r hr => ?_
    obtain ⟨i, hi, rfl⟩ := List.mem_iff_getElem.1 hr
    have hi' : i < C.tos.length := by simpa using hi
    simp only [List.getElem_modify]
    have h0 := (h.more ha hb) C.tos[i] (List.getElem_mem hi')
    split
    · unfold Rc.told
      split
      · exact h0
      · split
        · rename_i h5
          exact .inr (.inr ⟨rfl, by rw [h5]; simp⟩)
        · exact h0
    · exact h0
  · split
    · split
      · exact h.more ha hb
      · exact (h.fail _ _).more ha id
    · split
      · rename_i h6
        split
        · rename_i h2
          refine ((h.become1 _).fail _ _).more (fun _ => ?_) id
          rw [h6, h2]
          simp
        · exact (h.fail _ _).more ha id
      · split
        · exact h.more ha hb
        · unfold Cl.opening
          repeat' split
          all_goals first | exact (h.fail _ _).more ha id | exact h.more ha hb | exact (h.name).more ha hb
/-- A client that was made. -/
theorem clNew_ok {host : Bs} {fr : Mb} {tos : List Mb} {body : Bs} {C : Cl} {e : Int} (h : clNew host fr tos body = (some C, e)) (hh : host.length ≤ 300) (h1 : fr.1.length ≤ 300) (h2 : fr.2.length ≤ 300) (hb : body.length ≤ 4096) (ht : ∀ b ∈ tos, b.1.length ≤ 300 ∧ b.2.length ≤ 300) :
    C.Ok ∧ C.Just false false ∧ C.phase = 0 ∧ C.tos.length = tos.length ∧ e = 0 ∧ C = ⟨host, fr, tos.map fun b => ⟨b, 0, false⟩, body, 0, 0⟩ ∧ tos.all mbMay = true ∧ bodyOk body = true := by
  unfold clNew at h
  split at h
  · simp at h
  · rename_i hc
    split at h
    · simp at h
    · rename_i hc2
      split at h
      · simp at h
      · rename_i hc3
        simp only [Prod.mk.injEq, Option.some.injEq] at h
        obtain ⟨rfl, rfl⟩ := h
        refine ⟨⟨by simp, by simp, fun _ => rfl, fun h => absurd h (show ¬ ((0 : Int) = 4) by decide), hh, h1, h2, hb, ?_, ?_, fun r hr => ?_, by simp⟩, fun r hr => ?_, rfl, by simp, rfl, rfl, by simpa using hc2, by simpa using hc3⟩
        · simp; omega
        · simp; omega
        · obtain ⟨b, hb, rfl⟩ := List.mem_map.1 hr
          exact ht b hb
        · obtain ⟨b, hb, rfl⟩ := List.mem_map.1 hr
          exact .inl rfl
end Go.Proofs.YtapenolbbofjkaaGreatDoor

/-! ClT -/
namespace Go.Proofs.YtapenolbbofjkaaGreatDoor

theorem shown_u8 {P : UInt8 → Bool} (h : ∀ n : Fin 256, P (UInt8.ofNat n.val) = true → shownB (UInt8.ofNat n.val) = true) (c : UInt8) : P c = true → shownB c = true := u8_all (P := fun c => P c = true → shownB c = true) h c
theorem dom_shown (c : UInt8) : domC c = true → shownB c = true := shown_u8 (P := domC) (by decide +kernel) c
theorem loc_shown (c : UInt8) : locC c = true → shownB c = true := shown_u8 (P := locC) (by decide +kernel) c
theorem digit_shown (c : UInt8) : digitsW.contains c = true → shownB c = true := shown_u8 (P := fun c => digitsW.contains c) (by decide +kernel) c
theorem shown_ne13 {c : UInt8} (h : shownB c = true) : c ≠ 13 := fun e => by subst e; exact absurd h (by decide)
theorem noCr_shown : ∀ {s : Bs}, (∀ c ∈ s, shownB c = true) → noCr s = true
  | [], _ => rfl
  | c :: r, h => by
    unfold noCr
    rw [noCr_shown fun d hd => h d (by simp [hd]), Bool.and_true]
    have := shown_ne13 (h c (by simp))
    simp [this]
theorem all_app {p : UInt8 → Bool} {a b : Bs} (ha : ∀ c ∈ a, p c = true) (hb : ∀ c ∈ b, p c = true) : ∀ c ∈ a ++ b, p c = true := fun c hc => by
  rcases List.mem_append.1 hc with h | h
  · exact ha c h
  · exact hb c h
theorem quoted_shown {s : Bs} (h : ∀ c ∈ s, shownB c = true) : ∀ c ∈ quotedB s, shownB c = true := fun c hc => by
  unfold quotedB at hc
  rcases List.mem_cons.1 hc with rfl | hc
  · decide
  · rcases List.mem_append.1 hc with hc | hc
    · obtain ⟨d, hd, hc⟩ := List.mem_flatMap.1 hc
      unfold quoteC at hc
      split at hc
      · rcases List.mem_cons.1 hc with rfl | hc
        · decide
        · rw [List.mem_singleton.1 hc]; exact h d hd
      · rw [List.mem_singleton.1 hc]; exact h d hd
    · rw [List.mem_singleton.1 hc]; decide
theorem local_shown {s : Bs} (h : localB s = true) : ∀ c ∈ s, shownB c = true := by
  unfold localB allB at h
  simp only [Bool.and_eq_true, List.all_eq_true] at h
  exact h.2.1
theorem path_shown {b : Mb} (h : (mbPath b).2 = 0) : ∀ c ∈ (mbPath b).1, shownB c = true := by
  unfold mbPath at h ⊢
  split
  · decide
  · rename_i h1
    rw [if_neg h1] at h
    split
    · rename_i hm
      unfold mbMay at hm
      simp only [Bool.and_eq_true] at hm
      intro c hc
      rcases List.mem_cons.1 hc with rfl | hc
      · decide
      · rcases List.mem_append.1 hc with hc | hc
        · unfold mbText at hc
          rcases List.mem_append.1 hc with hc | hc
          · have hs := local_shown hm.2
            split at hc
            · exact hs c hc
            · exact quoted_shown hs c hc
          · rcases List.mem_cons.1 hc with rfl | hc
            · decide
            · exact dom_shown c (domOk_all hm.1.1 c hc)
        · rw [List.mem_singleton.1 hc]; decide
    · rename_i hm
      rw [if_neg hm] at h
      cases h
/-- A domain as it should be. -/
def domFine (s : Bs) : Prop := (domV s).2 = 0 ∧ (domV s).1 = s
theorem domFine.ok {s : Bs} (h : domFine s) : domOk s = true := by
  have := h.1
  unfold domV at this
  split at this
  · assumption
  · cases this
theorem greet_write {v : Int} {host : Bs} (hv : v = 1 ∨ v = 2) (h : domFine host) : cmWrite ⟨v, host, ([], []), 0, false⟩ = ((verbWs[v.toNat]?).getD [] ++ 32 :: host, 0) := by
  unfold cmWrite
  rw [if_neg (by dsimp only; omega)]
  have hb : besideC ⟨v, host, ([], []), 0, false⟩ = (32 :: host, true) := by
    unfold besideC
    rw [if_pos hv]
    unfold greetC
    dsimp only
    rw [h.1, h.2]
    simp [noBoxE]
  rw [hb]
  rfl
theorem quit_write : cmWrite ⟨8, [], ([], []), 0, false⟩ = ([81, 85, 73, 84], 0) := by decide
theorem data_write : cmWrite ⟨5, [], ([], []), 0, false⟩ = ([68, 65, 84, 65], 0) := by decide
theorem mail_write {b : Mb} {z : Int} (h : (mbPath b).2 = 0) (h1 : -1 ≤ z) (h2 : z ≤ 999999999999) : cmWrite ⟨3, [], b, z, false⟩ = ([77, 65, 73, 76] ++ (fromW ++ (mbPath b).1 ++ (if 0 ≤ z then sizeW ++ Lib.decDigits z.toNat else [])), 0) := by
  unfold cmWrite
  rw [if_neg (by dsimp only; omega)]
  have hb : besideC ⟨3, [], b, z, false⟩ = (fromW ++ (mbPath b).1 ++ (if 0 ≤ z then sizeW ++ Lib.decDigits z.toNat else []), true) := by
    unfold besideC
    rw [if_neg (by dsimp only; omega), if_pos rfl]
    unfold fromC
    dsimp only
    rw [h, decide_eq_true h1, decide_eq_true h2]
    simp
  rw [hb]
  rfl
theorem rcpt_write {b : Mb} (h : mbMay b = true) : cmWrite ⟨4, [], b, 0, false⟩ = ([82, 67, 80, 84] ++ (toW ++ (mbPath b).1), 0) := by
  have hp := mbPath_may (.inr h)
  have hn := mbMay_ne h
  unfold cmWrite
  rw [if_neg (by dsimp only; omega)]
  have hb : besideC ⟨4, [], b, 0, false⟩ = (toW ++ (mbPath b).1, true) := by
    unfold besideC
    rw [if_neg (by dsimp only; omega), if_neg (by dsimp only; omega), if_pos rfl]
    unfold toC
    dsimp only
    rw [hp, show noBox b = false from hn]
    rfl
  rw [hb]
  rfl
/-- A line that is a command. -/
def cmdLine (s : Bs) : Prop := ∃ x, s = lnJoin [x] ∧ noCr x = true ∧ (cmParse x).2 = 0
theorem cmdLine_of {c : Cm} {w : Bs} (h : cmWrite c = (w, 0)) (hs : ∀ b ∈ w, shownB b = true) : cmdLine (lnJoin [(cmWrite c).1]) :=
  ⟨w, by rw [h], noCr_shown hs, by rw [cmParse_write h]⟩
theorem cmdLine_split {s : Bs} (h : cmdLine s) : ∃ x, crR s = ([x], []) ∧ (cmParse x).2 = 0 := by
  obtain ⟨x, rfl, h1, h2⟩ := h
  refine ⟨x, ?_, h2⟩
  have := crR_join [x] [] (by simpa using h1)
  rw [List.append_nil] at this
  rw [this]
  rfl
theorem cmdLine_ne {s : Bs} (h : cmdLine s) : s ≠ [] := by
  obtain ⟨x, rfl, _⟩ := h
  simp [lnJoin]
/-- A client whose mailboxes may be. -/
structure Cl.Fine (C : Cl) : Prop where
  host : domFine C.host
  from_ : C.from_ = ([], []) ∨ mbMay C.from_ = true
  tos : ∀ r ∈ C.tos, mbMay r.box = true
  body : bodyOk C.body = true
  blen : C.body.length ≤ 4096
theorem Cl.Fine.like {C D : Cl} (h : C.Fine) (k : C.Like D) : D.Fine :=
  ⟨by rw [k.host]; exact h.host, by rw [k.from_]; exact h.from_, fun r hr => by
    obtain ⟨r0, h0, e⟩ := k.box r hr
    rw [e]
    exact h.tos r0 h0, by rw [k.body]; exact h.body, by rw [k.body]; exact h.blen⟩
theorem const_shown {s : Bs} (h : s.all shownB = true) : ∀ c ∈ s, shownB c = true := List.all_eq_true.1 h
theorem leave_line (C : Cl) : cmdLine C.leave.2 := cmdLine_of quit_write (const_shown (by decide))
theorem fail_line (C : Cl) (cls : Int) (p : Rc → Bool) : cmdLine (C.fail cls p).2 := leave_line _
theorem greet_line {C : Cl} (h : C.Fine) {v : Int} (ph : Int) (hv : v = 1 ∨ v = 2) : cmdLine (C.greet v ph).2 := by
  refine cmdLine_of (greet_write hv h.host) (all_app ?_ ?_)
  · rcases hv with rfl | rfl
    · exact const_shown (by decide)
    · exact const_shown (by decide)
  · intro c hc
    rcases List.mem_cons.1 hc with rfl | hc
    · decide
    · exact dom_shown c (domOk_all h.host.ok c hc)
theorem mail_line {C : Cl} (h : C.Fine) {z : Int} (h1 : -1 ≤ z) (h2 : z ≤ 999999999999) : cmdLine (C.mail z).2 := by
  have hp := mbPath_may h.from_
  refine cmdLine_of (mail_write hp h1 h2) (all_app (const_shown (by decide)) (all_app (all_app (const_shown (by decide)) (path_shown hp)) ?_))
  split
  · exact all_app (const_shown (by decide)) fun c hc => digit_shown c (dec_dig _ c hc)
  · intro c hc
    cases hc
theorem rcpt_line (C : Cl) {b : Mb} (ph : Int) (h : mbMay b = true) : cmdLine (C.send ⟨4, [], b, 0, false⟩ ph).2 :=
  cmdLine_of (rcpt_write h) (all_app (const_shown (by decide)) (all_app (const_shown (by decide)) (path_shown (mbPath_may (.inr h)))))
theorem name_line {C : Cl} (h : C.Fine) : cmdLine C.name.2 := by
  unfold Cl.name
  split
  · rename_i r hr
    exact rcpt_line C 4 (h.tos r (List.mem_of_getElem? hr))
  · split
    · exact cmdLine_of data_write (const_shown (by decide))
    · exact leave_line C
theorem opening_line {C : Cl} (h : C.Fine) (cls : Int) : cmdLine (C.opening cls).2 := by
  have hb := h.blen
  unfold Cl.opening
  split
  · exact greet_line h _ (.inr rfl)
  split
  · exact mail_line h (by omega) (by omega)
  split
  · exact greet_line h _ (.inl rfl)
  split
  · exact leave_line C
  split
  · exact mail_line h (by decide) (by decide)
  split
  · exact name_line h
  · exact fail_line _ _ _
/-- What is sent: nothing, from the phase 7 on; the text, from 5 to 6; a command else. -/
theorem take_sends {C : Cl} (h : C.Fine) (hok : C.Ok) (code : Int) :
    ((C.take code).2 = [] ∧ 7 ≤ C.phase ∧ (C.take code).1.phase = 8) ∨ ((C.take code).2 = lnStuff (lnSplit C.body).1 ∧ C.phase = 5 ∧ (C.take code).1.phase = 6) ∨ (cmdLine (C.take code).2 ∧ ¬ (C.phase = 5 ∧ (C.take code).1.phase = 6)) := by
  unfold Cl.take
  split
  · rename_i h4
    refine .inr (.inr ⟨?_, by omega⟩)
    exact name_line (h.like (modify_like C _ _))
  split
  · split
    · rename_i h5 _
      exact .inr (.inl ⟨rfl, h5, rfl⟩)
    · refine .inr (.inr ⟨fail_line _ _ _, ?_⟩)
      rw [(fail_phase _ _ _).1]
      omega
  split
  · refine .inr (.inr ⟨fail_line _ _ _, ?_⟩)
    omega
  split
  · exact .inl ⟨rfl, by omega, rfl⟩
  · refine .inr (.inr ⟨opening_line h _, by omega⟩)
/-- The body's lines, stuffed, are unstuffed to the body. -/
theorem body_lines {b : Bs} (h : bodyOk b = true) : (crR b).2 = [] ∧ lnJoin (crR b).1 = b ∧ (∀ x ∈ (crR b).1, noCr x = true) ∧ crR (lnStuff (lnSplit b).1) = ((crR b).1.map dotted ++ [[46]], []) := by
  unfold bodyOk at h
  rw [lnSplit_eq] at h ⊢
  simp only [Bool.and_eq_true, beq_iff_eq] at h
  have hb := crR_back b.length b (Nat.le_refl _)
  rw [h.1, List.append_nil] at hb
  exact ⟨h.1, hb.1, hb.2, stuff_split hb.2⟩
end Go.Proofs.YtapenolbbofjkaaGreatDoor
