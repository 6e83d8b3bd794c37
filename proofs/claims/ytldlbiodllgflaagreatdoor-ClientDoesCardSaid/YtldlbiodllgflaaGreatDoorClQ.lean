/- client, plainly: a client goes on, and is over behind as many replies as there are recipients and seven more; what becomes of recipients. No program. -/
import Derived.Test.YtldlbiodllgflaaGreatDoorClP
set_option linter.unusedSimpArgs false
set_option linter.unusedVariables false
set_option linter.unnecessarySimpa false
namespace Go.Proofs.YtldlbiodllgflaaGreatDoor

/-- What every client that was made keeps. -/
structure Cl.Ok (C : Cl) : Prop where
  ph0 : 0 ≤ C.phase
  ph8 : C.phase ≤ 8
  at0 : C.phase ≤ 3 → C.at_ = 0
  at4 : C.phase = 4 → C.at_ < C.tos.length
  host : C.host.length ≤ 300
  fl : C.from_.1.length ≤ 300
  fd : C.from_.2.length ≤ 300
  body : C.body.length ≤ 4096
  n1 : 1 ≤ C.tos.length
  n10 : C.tos.length ≤ 10
  bx : ∀ r ∈ C.tos, r.box.1.length ≤ 300 ∧ r.box.2.length ≤ 300
  atn : C.at_ ≤ C.tos.length
/-- How far a client is. -/
def Cl.rank (C : Cl) : Nat :=
  if C.phase ≤ 3 then C.phase.toNat else if C.phase = 4 then 4 + C.at_ else (C.phase.toNat - 1) + C.tos.length
theorem become_len (C : Cl) (st : Int) (p : Rc → Bool) : (C.become st p).tos.length = C.tos.length := by simp [Cl.become]
theorem become_box (C : Cl) (st : Int) (p : Rc → Bool) : ∀ r ∈ (C.become st p).tos, ∃ r0 ∈ C.tos, r.box = r0.box := fun r hr => by
  obtain ⟨r0, h0, rfl⟩ := List.mem_map.1 hr
  refine ⟨r0, h0, ?_⟩
  split <;> rfl
/-- A client moved on: its phase, its place, its recipients' states. -/
structure Cl.Like (C D : Cl) : Prop where
  host : D.host = C.host
  from_ : D.from_ = C.from_
  body : D.body = C.body
  len : D.tos.length = C.tos.length
  box : ∀ r ∈ D.tos, ∃ r0 ∈ C.tos, r.box = r0.box
theorem Cl.Like.refl (C : Cl) : C.Like C := ⟨rfl, rfl, rfl, rfl, fun r h => ⟨r, h, rfl⟩⟩
theorem Cl.Like.trans {A B C : Cl} (h : A.Like B) (k : B.Like C) : A.Like C :=
  ⟨k.host.trans h.host, k.from_.trans h.from_, k.body.trans h.body, k.len.trans h.len, fun r hr => by
    obtain ⟨r1, h1, e1⟩ := k.box r hr
    obtain ⟨r0, h0, e0⟩ := h.box r1 h1
    exact ⟨r0, h0, e1.trans e0⟩⟩
theorem Cl.Ok.like {C D : Cl} (h : C.Ok) (k : C.Like D) (h0 : 0 ≤ D.phase) (h8 : D.phase ≤ 8) (a0 : D.phase ≤ 3 → D.at_ = 0) (a4 : D.phase = 4 → D.at_ < D.tos.length) (an : D.at_ ≤ D.tos.length) : D.Ok :=
  ⟨h0, h8, a0, a4, by rw [k.host]; exact h.host, by rw [k.from_]; exact h.fl, by rw [k.from_]; exact h.fd, by rw [k.body]; exact h.body, by rw [k.len]; exact h.n1, by rw [k.len]; exact h.n10, fun r hr => by
    obtain ⟨r0, h0, e⟩ := k.box r hr
    rw [e]
    exact h.bx r0 h0, an⟩
theorem send_like (C : Cl) (x : Cm) (ph : Int) : C.Like (C.send x ph).1 := ⟨rfl, rfl, rfl, rfl, fun r h => ⟨r, h, rfl⟩⟩
theorem become_like (C : Cl) (st : Int) (p : Rc → Bool) : C.Like (C.become st p) := ⟨rfl, rfl, rfl, become_len C st p, become_box C st p⟩
theorem fail_like (C : Cl) (cls : Int) (p : Rc → Bool) : C.Like (C.fail cls p).1 := by
  unfold Cl.fail
  split
  · exact (become_like C 2 p).trans (send_like _ _ _)
  · exact send_like _ _ _
theorem fail_phase (C : Cl) (cls : Int) (p : Rc → Bool) : (C.fail cls p).1.phase = 7 ∧ (C.fail cls p).1.at_ = C.at_ := by
  unfold Cl.fail
  split <;> exact ⟨rfl, rfl⟩
theorem name_like (C : Cl) : C.Like C.name.1 := by
  unfold Cl.name
  split
  · exact send_like _ _ _
  · split
    · exact send_like _ _ _
    · exact send_like _ _ _
theorem name_phase (C : Cl) : (C.name.1.phase = 4 ∧ C.at_ < C.tos.length ∨ C.name.1.phase = 5 ∨ C.name.1.phase = 7) ∧ C.name.1.at_ = C.at_ ∧ C.name.1.tos = C.tos := by
  unfold Cl.name
  split
  · rename_i r hr
    obtain ⟨h, _⟩ := List.getElem?_eq_some_iff.1 hr
    exact ⟨.inl ⟨rfl, h⟩, rfl, rfl⟩
  · split
    · exact ⟨.inr (.inl rfl), rfl, rfl⟩
    · exact ⟨.inr (.inr rfl), rfl, rfl⟩
theorem told_box (r : Rc) (cls : Int) : (r.told cls).box = r.box := by
  unfold Rc.told
  split
  · rfl
  · split <;> rfl
theorem modify_like (C : Cl) (cls : Int) (n : Nat) : C.Like { C with tos := C.tos.modify C.at_ (·.told cls), at_ := n } := by
  refine ⟨rfl, rfl, rfl, by simp, fun r hr => ?_⟩
  obtain ⟨i, hi, rfl⟩ := List.mem_iff_getElem.1 hr
  have hi' : i < C.tos.length := by simpa using hi
  refine ⟨C.tos[i], List.getElem_mem hi', ?_⟩
  simp only [List.getElem_modify]
  split
  · exact told_box _ _
  · rfl
theorem opening_like (C : Cl) (cls : Int) : C.Like (C.opening cls).1 := by
  unfold Cl.opening
  repeat' split
  all_goals first | exact send_like _ _ _ | exact name_like _ | exact fail_like _ _ _
theorem take_like (C : Cl) (code : Int) : C.Like (C.take code).1 := by
  unfold Cl.take
  split
  · exact (modify_like C _ _).trans (name_like _)
  · split
    · split
      · exact ⟨rfl, rfl, rfl, rfl, fun r h => ⟨r, h, rfl⟩⟩
      · exact fail_like _ _ _
    · split
      · split
        · exact (become_like C 1 _).trans (fail_like _ _ _)
        · exact fail_like _ _ _
      · split
        · exact ⟨rfl, rfl, rfl, rfl, fun r h => ⟨r, h, rfl⟩⟩
        · exact opening_like _ _
theorem opening_goes (C : Cl) (cls : Int) (h0 : 0 ≤ C.phase) (h3 : C.phase ≤ 3) :
    ((C.opening cls).1.phase = 7 ∨ (C.phase < (C.opening cls).1.phase ∧ (C.opening cls).1.phase ≤ 3) ∨ ((C.opening cls).1.phase = 4 ∧ C.at_ < C.tos.length) ∨ (C.opening cls).1.phase = 5) ∧ (C.opening cls).1.at_ = C.at_ := by
  have hf := fail_phase C cls Rc.waits
  have hn := name_phase C
  unfold Cl.opening
  split
  · rename_i h; exact ⟨.inr (.inl ⟨by show C.phase < 1; omega, (by decide : (1 : Int) ≤ 3)⟩), rfl⟩
  split
  · rename_i h; exact ⟨.inr (.inl ⟨by show C.phase < 3; omega, (by decide : (3 : Int) ≤ 3)⟩), rfl⟩
  split
  · rename_i h; exact ⟨.inr (.inl ⟨by show C.phase < 2; omega, (by decide : (2 : Int) ≤ 3)⟩), rfl⟩
  split
  · exact ⟨.inl rfl, rfl⟩
  split
  · rename_i h; exact ⟨.inr (.inl ⟨by show C.phase < 3; omega, (by decide : (3 : Int) ≤ 3)⟩), rfl⟩
  split
  · obtain ⟨h1, h2, _⟩ := hn
    refine ⟨?_, h2⟩
    rcases h1 with h1 | h1 | h1
    · exact .inr (.inr (.inl h1))
    · exact .inr (.inr (.inr h1))
    · exact .inl h1
  · exact ⟨.inl hf.1, hf.2⟩
/-- Where a client goes from a phase. -/
theorem take_goes {C : Cl} (h : C.Ok) (code : Int) : (C.take code).1.Ok ∧ ((C.take code).1.phase = 8 ∨ C.rank < (C.take code).1.rank) ∧ (C.phase ≤ (C.take code).1.phase ∨ (C.take code).1.phase = 4) := by
  have hl := take_like C code
  have hlen := hl.len
  have h0 := h.ph0
  have h8 := h.ph8
  have hat := h.at0
  have h4 := h.at4
  have hn := h.n1
  have han := h.atn
  have key : ((0 ≤ (C.take code).1.phase ∧ (C.take code).1.phase ≤ 8) ∧ ((C.take code).1.phase ≤ 3 → (C.take code).1.at_ = 0) ∧ ((C.take code).1.phase = 4 → (C.take code).1.at_ < (C.take code).1.tos.length) ∧ (C.take code).1.at_ ≤ (C.take code).1.tos.length) ∧ ((C.take code).1.phase = 8 ∨ C.rank < (C.take code).1.rank) ∧ (C.phase ≤ (C.take code).1.phase ∨ (C.take code).1.phase = 4) := by
    rw [hlen]
    unfold Cl.rank
    rw [hlen]
    unfold Cl.take at hlen ⊢
    split at hlen
    · rename_i hp
      rw [if_pos hp]
      unfold Cl.named
      have := name_phase ({ C with tos := C.tos.modify C.at_ (·.told (classC code)), at_ := C.at_ + 1 } : Cl)
      generalize Cl.name _ = q at *
      obtain ⟨h1, h2, h3⟩ := this
      dsimp only at h1 h2 h3
      rw [List.length_modify] at h1
      rw [h2]
      have := h4 hp
      rcases h1 with ⟨h1, h5⟩ | h1 | h1
      all_goals
        rw [h1]
        simp [hp]
        omega
    · rename_i hp4
      rw [if_neg hp4]
      split at hlen
      · rename_i hp
        rw [if_pos hp]
        split at hlen
        · rename_i hc
          rw [if_pos hc]
          simp [hp]
          omega
        · rename_i hc
          rw [if_neg hc]
          have := fail_phase C (classC code) Rc.taken
          rw [this.1, this.2]
          simp [hp]
          omega
      · rename_i hp5
        rw [if_neg hp5]
        split at hlen
        · rename_i hp
          rw [if_pos hp]
          have := fail_phase (if classC code = 2 then C.become 1 Rc.taken else C) (classC code) Rc.taken
          have e : (if classC code = 2 then C.become 1 Rc.taken else C).at_ = C.at_ := by split <;> rfl
          rw [this.1, this.2, e]
          simp [hp]
          omega
        · rename_i hp6
          rw [if_neg hp6]
          split at hlen
          · rename_i hp
            rw [if_pos hp]
            dsimp only
            refine ⟨⟨by omega, fun h => absurd h (by decide), fun h => absurd h (by decide), han⟩, .inl rfl, .inl (by omega)⟩
          · rename_i hp7
            rw [if_neg hp7]
            have hlo : C.phase ≤ 3 := by omega
            have ha := hat hlo
            have := opening_goes C (classC code) h0 hlo
            obtain ⟨h1, h2⟩ := this
            rw [h2]
            generalize (C.opening (classC code)).1 = q at *
            rw [if_pos hlo]
            rcases h1 with h1 | ⟨h1, h5⟩ | ⟨h1, h5⟩ | h1
            · rw [h1]; simp; omega
            · rw [if_pos h5]; refine ⟨⟨?_, ?_, ?_, ?_⟩, ?_, ?_⟩ <;> omega
            · rw [h1]; simp; omega
            · rw [h1]; simp; omega
  obtain ⟨⟨⟨k0, k8⟩, ka, k4, kn⟩, k2⟩ := key
  exact ⟨h.like hl k0 k8 ka k4 kn, k2⟩
/-- What became of recipients, and why. -/
def Cl.Just (C : Cl) (took never : Bool) : Prop := ∀ r ∈ C.tos, r.state = 0 ∨ (r.state = 1 ∧ took = true) ∨ (r.state = 2 ∧ never = true)
theorem Cl.Just.more {C : Cl} {a b a2 b2 : Bool} (h : C.Just a b) (ha : a = true → a2 = true) (hb : b = true → b2 = true) : C.Just a2 b2 := fun r hr => by
  rcases h r hr with h | ⟨h, k⟩ | ⟨h, k⟩
  · exact .inl h
  · exact .inr (.inl ⟨h, ha k⟩)
  · exact .inr (.inr ⟨h, hb k⟩)
theorem Cl.Just.become1 {C : Cl} {a b : Bool} (h : C.Just a b) (p : Rc → Bool) : (C.become 1 p).Just true b := fun r hr => by
  obtain ⟨r0, h0, rfl⟩ := List.mem_map.1 hr
  split
  · exact .inr (.inl ⟨rfl, rfl⟩)
  · exact h.more (fun _ => rfl) id r0 h0
theorem Cl.Just.become2 {C : Cl} {a b : Bool} (h : C.Just a b) (p : Rc → Bool) : (C.become 2 p).Just a true := fun r hr => by
  obtain ⟨r0, h0, rfl⟩ := List.mem_map.1 hr
  split
  · exact .inr (.inr ⟨rfl, rfl⟩)
  · exact h.more id (fun _ => rfl) r0 h0
theorem Cl.Just.fail {C : Cl} {a b : Bool} (h : C.Just a b) (cls : Int) (p : Rc → Bool) : (C.fail cls p).1.Just a (b || cls == 5) := by
  unfold Cl.fail
  split
  · rename_i h5
    subst h5
    rw [show (b || ((5 : Int) == 5)) = true by simp]
    exact h.become2 p
  · exact h.more id (fun k => by rw [k]; rfl)
theorem Cl.Just.name {C : Cl} {a b : Bool} (h : C.Just a b) : C.name.1.Just a b := by
  unfold Cl.Just
  rw [(name_phase C).2.2]
  exact h
theorem take_just {C : Cl} {a b : Bool} (h : C.Just a b) (code : Int) : (C.take code).1.Just (a || (C.phase == 6 && classC code == 2)) (b || classC code == 5) := by
  have hb : b = true → (b || classC code == 5) = true := fun k => by rw [k]; rfl
  have ha : a = true → (a || (C.phase == 6 && classC code == 2)) = true := fun k => by rw [k]; rfl
  unfold Cl.take
  split
  · unfold Cl.named
    refine Cl.Just.name fun r hr => ?_
    obtain ⟨i, hi, rfl⟩ := List.mem_iff_getElem.1 hr
    have hi' : i < C.tos.length := by simpa using hi
    simp only [List.getElem_modify]
    have h0 := (h.more ha hb) C.tos[i] (List.getElem_mem hi')
    split
    · unfold Rc.told
      split
      · exact h0
      · split
        · rename_i h5
          exact .inr (.inr ⟨rfl, by rw [h5]; simp⟩)
        · exact h0
    · exact h0
  · split
    · split
      · exact h.more ha hb
      · exact (h.fail _ _).more ha id
    · split
      · rename_i h6
        split
        · rename_i h2
          refine ((h.become1 _).fail _ _).more (fun _ => ?_) id
          rw [h6, h2]
          simp
        · exact (h.fail _ _).more ha id
      · split
        · exact h.more ha hb
        · unfold Cl.opening
          repeat' split
          all_goals first | exact (h.fail _ _).more ha id | exact h.more ha hb | exact (h.name).more ha hb
/-- A client that was made. -/
theorem clNew_ok {host : Bs} {fr : Mb} {tos : List Mb} {body : Bs} {C : Cl} {e : Int} (h : clNew host fr tos body = (some C, e)) (hh : host.length ≤ 300) (h1 : fr.1.length ≤ 300) (h2 : fr.2.length ≤ 300) (hb : body.length ≤ 4096) (ht : ∀ b ∈ tos, b.1.length ≤ 300 ∧ b.2.length ≤ 300) :
    C.Ok ∧ C.Just false false ∧ C.phase = 0 ∧ C.tos.length = tos.length ∧ e = 0 ∧ C = ⟨host, fr, tos.map fun b => ⟨b, 0, false⟩, body, 0, 0⟩ ∧ tos.all mbMay = true ∧ bodyOk body = true := by
  unfold clNew at h
  split at h
  · simp at h
  · rename_i hc
    split at h
    · simp at h
    · rename_i hc2
      split at h
      · simp at h
      · rename_i hc3
        simp only [Prod.mk.injEq, Option.some.injEq] at h
        obtain ⟨rfl, rfl⟩ := h
        refine ⟨⟨by simp, by simp, fun _ => rfl, fun h => absurd h (show ¬ ((0 : Int) = 4) by decide), hh, h1, h2, hb, ?_, ?_, fun r hr => ?_, by simp⟩, fun r hr => ?_, rfl, by simp, rfl, rfl, by simpa using hc2, by simpa using hc3⟩
        · simp; omega
        · simp; omega
        · obtain ⟨b, hb, rfl⟩ := List.mem_map.1 hr
          exact ht b hb
        · obtain ⟨b, hb, rfl⟩ := List.mem_map.1 hr
          exact .inl rfl
end Go.Proofs.YtldlbiodllgflaaGreatDoor
