/- client: phases told, the openings, a recipient named, Take. Conditions: the client is one that was made; what Go's variables hold. -/
import Derived.Test.YtldlbiodllgflaaGreatDoorClV
import Derived.Test.YtldlbiodllgflaaGreatDoorClT
import Derived.Test.YtldlbiodllgflaaGreatDoorLnW
import Derived.Test.YtldlbiodllgflaaGreatDoorCmK
set_option linter.unusedSimpArgs false
set_option linter.unusedVariables false
set_option linter.unnecessarySimpa false
namespace Go.Proofs.YtldlbiodllgflaaGreatDoor
open Go.RowKit

section
variable {w0 w : World} {L : List Res} {F0 : List Nat} {p : Nat} {v : Value} {C : Cl}
set_option maxRecDepth 100000 in
theorem clPhase_any (S : Sp w0 F0 w (clB p C v :: L)) : Calls Tryz.prog 14 #[.pointer (some ⟨p, 0, none⟩)] w fun e w2 => e = .returned (.int .i64 C.phase) ∧ w = w2 := by
  have c0 := S.cell
  unfold clCells at c0
  clear S
  go_enter Tryz.func14, Tryz.ntmps14
  go_wp2
  go_ret
  exact ⟨rfl, rfl⟩
set_option maxRecDepth 100000 in
theorem clOver_any (S : Sp w0 F0 w (clB p C v :: L)) : Calls Tryz.prog 17 #[.pointer (some ⟨p, 0, none⟩)] w fun e w2 => e = .returned (.bool (C.phase == 8)) ∧ w = w2 := by
  have c0 := S.cell
  unfold clCells at c0
  clear S
  go_enter Tryz.func17, Tryz.ntmps17
  go_wp2
  go_ret
  exact ⟨rfl, rfl⟩
set_option maxRecDepth 100000 in
theorem clLoseS (S : Sp w0 F0 w (clB p C v :: L)) : Calls Tryz.prog 21 #[.pointer (some ⟨p, 0, none⟩)] w fun e w2 => e = .returned (.tuple #[]) ∧ Sp w0 F0 w2 (clB p { C with phase := 8 } v :: L) := by
  have c0 := S.cell
  have f0 := S.free
  have HS := Lib.hid (S.set (o := 5) (.int .i64 8))
  unfold clCells at c0
  clear S
  go_enter Tryz.func21, Tryz.ntmps21
  go_wp2
  go_end0
  exact ⟨rfl, HS.out⟩
set_option maxRecDepth 100000 in
set_option maxHeartbeats 2000000 in
theorem clOpeningS (cls : Int) (K : C.Ok) (S : Sp w0 [] w (clR p C v L)) (E : Env w0) : Calls Tryz.prog 40 #[.pointer (some ⟨p, 0, none⟩), .int .i64 cls] w (OutR2 w0 L p v (C.opening cls)) := by
  have HK := Lib.hid K
  have eg := enters_of Tryz.func68 (by kernel_rfl) rfl
  have HG := Lib.hid (fun (verb ph : Int) => clGreetS (C := C) (L := rcsR v C.tos :: L) verb ph (by have := K.host; omega) S E)
  have HM := Lib.hid (fun (z : Int) (h1 : -9223372036854775808 ≤ z) (h2 : z ≤ 9223372036854775807) => clMailS (C := C) (L := rcsR v C.tos :: L) z h1 h2 (by have := K.fl; omega) (by have := K.fd; omega) S E)
  have HL := Lib.hid (clLeaveS (C := C) (L := rcsR v C.tos :: L) S E)
  have HN := Lib.hid (clNameS (C := C) (fun e => by have := K.n1; rw [e] at this; simp at this) (fun r hr => by have := K.bx r hr; omega) (by have := K.n10; omega) (by have := K.atn; have := K.n10; omega) S E)
  have HF := Lib.hid (clFailS (C := C) cls Rc.waits 68 eg (fun r w => rcWaits_any r w) (by have := K.n10; omega) S E)
  have HS := Lib.hid S
  have c0 := S.cell
  have HBL : Hid ((C.body.length : Int) ≤ 4096) := by have := K.body; unfold Hid; omega
  have HO : Hid (C.opening cls = if C.phase = 0 ∧ cls = 2 then C.greet 2 1 else if C.phase = 1 ∧ cls = 2 then C.mail C.body.length else if C.phase = 1 ∧ cls = 5 then C.greet 1 2 else if C.phase = 1 then C.leave else if C.phase = 2 ∧ cls = 2 then C.mail (-1) else if C.phase = 3 ∧ cls = 2 then C.name else C.fail cls Rc.waits) := rfl
  have HQG : Hid (∀ verb ph, (C.greet verb ph).1.tos = C.tos) := fun _ _ => rfl
  have HQM : Hid (∀ z, (C.mail z).1.tos = C.tos) := fun _ => rfl
  have HQL : Hid (C.leave.1.tos = C.tos) := rfl
  unfold clCells at c0
  clear S E K eg
  by_cases h2 : cls = 2
  · have b2 : (cls == 2) = true := by simpa using h2
    have b5 : (cls == 5) = false := by rw [h2]; rfl
    by_cases p0 : C.phase = 0
    · have q0 : (C.phase == 0) = true := by simpa using p0
      have HV : Hid (C.opening cls = C.greet 2 1) := by unfold Hid; rw [HO.out, if_pos (by omega)]
      clear HO p0 h2
      go_enter Tryz.func40, Tryz.ntmps40
      go_wp2_with fail
      refine (HG.out 2 1).mono ?_
      rintro e w2 ⟨rfl, S⟩
      have HS2 := Lib.hid S
      clear S
      go_wp2
      go_ret
      rw [HV.out]
      refine ⟨rfl, ?_⟩
      unfold clR
      rw [HQG.out 2 1]
      exact HS2.out
    have q0 : (C.phase == 0) = false := by simpa using p0
    by_cases p1 : C.phase = 1
    · have q1 : (C.phase == 1) = true := by simpa using p1
      have HV : Hid (C.opening cls = C.mail C.body.length) := by unfold Hid; rw [HO.out, if_neg (by omega), if_pos (by omega)]
      clear HO p0 p1 h2
      go_enter Tryz.func40, Tryz.ntmps40
      go_wp2_with fail
      refine (HM.out C.body.length (by have := HBL.out; omega) (by have := HBL.out; omega)).mono ?_
      rintro e w2 ⟨rfl, S⟩
      have HS2 := Lib.hid S
      clear S
      go_wp2
      go_ret
      rw [HV.out]
      refine ⟨rfl, ?_⟩
      unfold clR
      rw [HQM.out C.body.length]
      exact HS2.out
    have q1 : (C.phase == 1) = false := by simpa using p1
    by_cases p2 : C.phase = 2
    · have q2 : (C.phase == 2) = true := by simpa using p2
      have HV : Hid (C.opening cls = C.mail (-1)) := by unfold Hid; rw [HO.out, if_neg (by omega), if_neg (by omega), if_neg (by omega), if_neg (by omega), if_pos (by omega)]
      clear HO p0 p1 p2 h2
      go_enter Tryz.func40, Tryz.ntmps40
      go_wp2_with fail
      refine (HM.out (-1) (by decide) (by decide)).mono ?_
      rintro e w2 ⟨rfl, S⟩
      have HS2 := Lib.hid S
      clear S
      go_wp2
      go_ret
      rw [HV.out]
      refine ⟨rfl, ?_⟩
      unfold clR
      rw [HQM.out (-1)]
      exact HS2.out
    have q2 : (C.phase == 2) = false := by simpa using p2
    by_cases p3 : C.phase = 3
    · have q3 : (C.phase == 3) = true := by simpa using p3
      have HV : Hid (C.opening cls = C.name) := by unfold Hid; rw [HO.out, if_neg (by omega), if_neg (by omega), if_neg (by omega), if_neg (by omega), if_neg (by omega), if_pos (by omega)]
      clear HO p0 p1 p2 p3 h2
      go_enter Tryz.func40, Tryz.ntmps40
      go_wp2_with fail
      refine (HN.out).mono ?_
      rintro e w2 ⟨rfl, S⟩
      have HS2 := Lib.hid S
      clear S
      go_wp2
      go_ret
      rw [HV.out]
      exact ⟨rfl, HS2.out⟩
    have q3 : (C.phase == 3) = false := by simpa using p3
    have HV : Hid (C.opening cls = C.fail cls Rc.waits) := by unfold Hid; rw [HO.out, if_neg (by omega), if_neg (by omega), if_neg (by omega), if_neg (by omega), if_neg (by omega), if_neg (by omega)]
    clear HO p0 p1 p2 p3 h2
    go_enter Tryz.func40, Tryz.ntmps40
    go_wp2_with fail
    refine (HF.out).mono ?_
    rintro e w2 ⟨rfl, S⟩
    have HS2 := Lib.hid S
    clear S
    go_wp2
    go_ret
    rw [HV.out]
    exact ⟨rfl, HS2.out⟩
  · have b2 : (cls == 2) = false := by simpa using h2
    by_cases p1 : C.phase = 1
    · have q1 : (C.phase == 1) = true := by simpa using p1
      have q0 : (C.phase == 0) = false := by rw [p1]; rfl
      by_cases h5 : cls = 5
      · have b5 : (cls == 5) = true := by simpa using h5
        have HV : Hid (C.opening cls = C.greet 1 2) := by unfold Hid; rw [HO.out, if_neg (by omega), if_neg (by omega), if_pos (by omega)]
        clear HO p1 h2 h5
        go_enter Tryz.func40, Tryz.ntmps40
        go_wp2_with fail
        refine (HG.out 1 2).mono ?_
        rintro e w2 ⟨rfl, S⟩
        have HS2 := Lib.hid S
        clear S
        go_wp2
        go_ret
        rw [HV.out]
        refine ⟨rfl, ?_⟩
        unfold clR
        rw [HQG.out 1 2]
        exact HS2.out
      · have b5 : (cls == 5) = false := by simpa using h5
        have HV : Hid (C.opening cls = C.leave) := by unfold Hid; rw [HO.out, if_neg (by omega), if_neg (by omega), if_neg (by omega), if_pos (by omega)]
        clear HO p1 h2 h5
        go_enter Tryz.func40, Tryz.ntmps40
        go_wp2_with fail
        refine (HL.out).mono ?_
        rintro e w2 ⟨rfl, S⟩
        have HS2 := Lib.hid S
        clear S
        go_wp2
        go_ret
        rw [HV.out]
        refine ⟨rfl, ?_⟩
        unfold clR
        rw [HQL.out]
        exact HS2.out
    have q1 : (C.phase == 1) = false := by simpa using p1
    have HV0 : Hid (C.opening cls = C.fail cls Rc.waits) := by unfold Hid; rw [HO.out, if_neg (by omega), if_neg (by omega), if_neg (by omega), if_neg (by omega), if_neg (by omega), if_neg (by omega)]
    have hor : (C.phase == 0) = true ∧ (C.phase == 2) = false ∧ (C.phase == 3) = false ∨ (C.phase == 0) = false ∧ (C.phase == 2) = true ∧ (C.phase == 3) = false ∨ (C.phase == 0) = false ∧ (C.phase == 2) = false ∧ (C.phase == 3) = true ∨ (C.phase == 0) = false ∧ (C.phase == 2) = false ∧ (C.phase == 3) = false := by
      by_cases p0 : C.phase = 0
      · rw [p0]; exact .inl ⟨rfl, rfl, rfl⟩
      by_cases p2 : C.phase = 2
      · rw [p2]; exact .inr (.inl ⟨rfl, rfl, rfl⟩)
      by_cases p3 : C.phase = 3
      · rw [p3]; exact .inr (.inr (.inl ⟨rfl, rfl, rfl⟩))
      exact .inr (.inr (.inr ⟨by simpa using p0, by simpa using p2, by simpa using p3⟩))
    clear HO p1 h2
    rcases hor with ⟨q0, q2, q3⟩ | ⟨q0, q2, q3⟩ | ⟨q0, q2, q3⟩ | ⟨q0, q2, q3⟩
    all_goals
      go_enter Tryz.func40, Tryz.ntmps40
      go_wp2_with fail
      refine (HF.out).mono ?_
      rintro e w2 ⟨rfl, S⟩
      have HS2 := Lib.hid S
      clear S
      go_wp2
      go_ret
      rw [HV0.out]
      exact ⟨rfl, HS2.out⟩
theorem modify_set {l : List Rc} {k : Nat} {r : Rc} (h : l[k]? = some r) (f : Rc → Rc) : l.modify k f = l.set k (f r) := by
  obtain ⟨h1, rfl⟩ := List.getElem?_eq_some_iff.1 h
  apply List.ext_getElem?
  intro i
  rw [List.getElem?_modify, List.getElem?_set]
  by_cases e : k = i
  · subst e
    rw [if_pos rfl, if_pos h1, h]
    simp
  · rw [if_neg e]
    cases l[i]? with
    | none => rfl
    | some x => simp [e]
set_option maxRecDepth 100000 in
set_option maxHeartbeats 2000000 in
theorem clNamedS (cls : Int) (K : C.Ok) (hp : C.phase = 4) (S : Sp w0 [] w (clR p C v L)) (E : Env w0) : Calls Tryz.prog 34 #[.pointer (some ⟨p, 0, none⟩), .int .i64 cls] w (OutR2 w0 L p v (C.named cls)) := by
  have hlt := K.at4 hp
  have hat : C.tos[C.at_]? = some C.tos[C.at_] := List.getElem?_eq_getElem hlt
  have HMD := Lib.hid (modify_set hat (·.told cls))
  have HD : Hid (C.named cls = ({ C with tos := C.tos.modify C.at_ (·.told cls), at_ := C.at_ + 1 } : Cl).name) := rfl
  rw [HMD.out] at HD
  have HBX : Hid (∀ r ∈ C.tos.set C.at_ (C.tos[C.at_].told cls), r.box.1.length ≤ 2048 ∧ r.box.2.length ≤ 2048) := fun r hr => by
    rcases List.mem_or_eq_of_mem_set hr with h | rfl
    · have := K.bx r h; omega
    · rw [told_box]
      have := K.bx _ (List.getElem_mem hlt); omega
  have HN := Lib.hid (fun (w' : World) (S' : Sp w0 [] w' (clR p ({ C with tos := C.tos.set C.at_ (C.tos[C.at_].told cls), at_ := C.at_ + 1 } : Cl) v L)) => clNameS (C := ({ C with tos := C.tos.set C.at_ (C.tos[C.at_].told cls), at_ := C.at_ + 1 } : Cl)) (v := v) (L := L) (p := p) (fun e => by
    have h := congrArg List.length e
    simp at h
    have := K.n1
    rw [h] at this
    simp at this) HBX.out (by have := K.n10; simp; omega) (by have := K.atn; have := K.n10; show C.at_ + 1 ≤ _; omega) S' E)
  have HS := Lib.hid S
  have c0 := S.cell
  obtain ⟨a, cap, rfl⟩ := S.pull1.rcSlice
  obtain ⟨ga, rfl⟩ : ∃ ga, a = some ⟨ga, 0, none⟩ := by
    rcases HS.out.pull1.rowForm with ⟨h1, h2⟩ | ⟨g2, cap2, h1⟩
    · omega
    · cases h1; exact ⟨g2, rfl⟩
  have hlt' : (C.at_ : Int) < C.tos.length := by omega
  have han : (C.at_ : Int) ≤ 100 := by have := K.atn; have := K.n10; omega
  have hnn : (C.tos.length : Int) ≤ 100 := by have := K.n10; omega
  have HAT := Lib.hid hat
  have HT : Hid (C.tos[C.at_].told cls = if cls = 2 then { C.tos[C.at_] with acc := true } else if cls = 5 then { C.tos[C.at_] with state := 2 } else C.tos[C.at_]) := rfl
  generalize C.tos[C.at_] = r at *
  have HROW := Lib.hid (fun (w' : World) (S' : Sp w0 [] w' (rcsR (.slice (some ⟨ga, 0, none⟩) C.tos.length cap) C.tos :: clB p C (.slice (some ⟨ga, 0, none⟩) C.tos.length cap) :: L)) (j : Nat) (hj : j < 4) (u : Value) => S'.rowSet (rcVals_len _) (i := C.at_) (r := r.vals) (by rw [List.getElem?_map, HAT.out]; rfl) (j := j) hj u)
  have HUP : Hid (∀ (j : Nat) (u : Value) (r2 : Rc), r.vals.set j u = r2.vals → (C.tos.map Rc.vals).set C.at_ (r.vals.set j u) = (C.tos.set C.at_ r2).map Rc.vals) := fun j u r2 h => by rw [h, List.map_set]
  have HSAME : Hid (C.tos.set C.at_ r = C.tos) := by
    unfold Hid
    apply List.ext_getElem?
    intro i
    rw [List.getElem?_set]
    by_cases e : C.at_ = i
    · subst e; rw [if_pos rfl, if_pos hlt, HAT.out]
    · rw [if_neg e]
  have HAT4 : Hid (((C.at_ : Int) + 1) = ((C.at_ + 1 : Nat) : Int)) := by unfold Hid; omega
  clear S E K hat hlt hp
  unfold clCells at c0
  rw [HD.out]
  generalize hq : Cl.name _ = q
  rw [hq] at HN
  clear hq HD HMD
  obtain ⟨host, ⟨fl, fd⟩, tos, body, phase, at_⟩ := C
  dsimp only at *
  by_cases h2 : cls = 2
  · have b2 : (cls == 2) = true := by simpa using h2
    rw [HT.out, if_pos h2] at HN
    have HU := Lib.hid (HUP.out 3 (.bool true) { r with acc := true } rfl)
    have S3 := HROW.out _ HS.out.pull1 3 (by decide) (.bool true)
    rw [HU.out] at S3
    obtain ⟨k0, k1, k2, k3⟩ := HS.out.pull1.rcCells HAT.out
    have hr0 := HS.out.pull1.rowFree (at_ * 4 + 3)
    have c3 := S3.pull1.cell
    have f3 := S3.pull1.free
    have S4 := (S3.pull1.set (o := 6) (.int .i64 ((at_ + 1 : Nat) : Int))).drew
    have HS4 := Lib.hid S4
    have l3 := S3.pull1.boxlt
    unfold clCells at c3
    dsimp only at c3
    clear S3 S4 HROW HUP HU h2 HSAME HT HBX
    go_enter Tryz.func34, Tryz.ntmps34
    go_wp2_with fail
    go_region
    go_wp2_with fail
    rw [HAT4.out]
    refine (HN.out _ ?_).mono ?_
    · have := HS4.out
      unfold clR clB clCells rcsR at *
      dsimp only at *
      rw [List.length_set]
      exact this
    rintro e w2 ⟨rfl, S⟩
    have HS5 := Lib.hid S
    clear S
    go_wp2
    go_ret
    exact ⟨rfl, HS5.out⟩
  have b2 : (cls == 2) = false := by simpa using h2
  by_cases h5 : cls = 5
  · have b5 : (cls == 5) = true := by simpa using h5
    rw [HT.out, if_neg h2, if_pos h5] at HN
    have HU := Lib.hid (HUP.out 2 (.int .i64 2) { r with state := 2 } rfl)
    have S3 := HROW.out _ HS.out.pull1 2 (by decide) (.int .i64 2)
    rw [HU.out] at S3
    obtain ⟨k0, k1, k2, k3⟩ := HS.out.pull1.rcCells HAT.out
    have hr0 := HS.out.pull1.rowFree (at_ * 4 + 2)
    have c3 := S3.pull1.cell
    have f3 := S3.pull1.free
    have S4 := (S3.pull1.set (o := 6) (.int .i64 ((at_ + 1 : Nat) : Int))).drew
    have HS4 := Lib.hid S4
    have l3 := S3.pull1.boxlt
    unfold clCells at c3
    dsimp only at c3
    clear S3 S4 HROW HUP HU h2 h5 HSAME HT HBX
    go_enter Tryz.func34, Tryz.ntmps34
    go_wp2_with fail
    go_region
    go_wp2_with fail
    rw [HAT4.out]
    refine (HN.out _ ?_).mono ?_
    · have := HS4.out
      unfold clR clB clCells rcsR at *
      dsimp only at *
      rw [List.length_set]
      exact this
    rintro e w2 ⟨rfl, S⟩
    have HS5 := Lib.hid S
    clear S
    go_wp2
    go_ret
    exact ⟨rfl, HS5.out⟩
  · have b5 : (cls == 5) = false := by simpa using h5
    rw [HT.out, if_neg h2, if_neg h5, HSAME.out] at HN
    have S4 := (HS.out.set (o := 6) (.int .i64 ((at_ + 1 : Nat) : Int))).drew
    have f3 := HS.out.free
    have HS4 := Lib.hid S4
    clear S4 HROW HUP h2 h5 HSAME HT HBX
    go_enter Tryz.func34, Tryz.ntmps34
    go_wp2_with fail
    go_region
    go_wp2_with fail
    rw [HAT4.out]
    refine (HN.out _ HS4.out).mono ?_
    rintro e w2 ⟨rfl, S⟩
    have HS5 := Lib.hid S
    clear S
    go_wp2
    go_ret
    exact ⟨rfl, HS5.out⟩
set_option maxRecDepth 100000 in
set_option maxHeartbeats 4000000 in
theorem clTakeS (code : Int) (hc1 : -9223372036854775808 ≤ code) (hc2 : code ≤ 9223372036854775807) (K : C.Ok) (S : Sp w0 [] w (clR p C v L)) (E : Env w0) : Calls Tryz.prog 12 #[.pointer (some ⟨p, 0, none⟩), .int .i64 code] w (OutR2 w0 L p v (C.take code)) := by
  have egT := enters_of Tryz.func36 (by kernel_rfl) rfl
  have hn10 : C.tos.length ≤ 1000 := by have := K.n10; omega
  have HB1 := Lib.hid (clBecomeS (C := C) 1 Rc.taken 36 egT (fun r w => rcTaken_any r w) hn10 S)
  have HF := Lib.hid (fun (D : Cl) (w' : World) (hd : D.tos.length ≤ 1000) (S' : Sp w0 [] w' (clR p D v L)) => clFailS (C := D) (classC code) Rc.taken 36 egT (fun r w => rcTaken_any r w) hd S' E)
  have HO := Lib.hid (clOpeningS (classC code) K S E)
  have HT : Hid (C.take code = if C.phase = 4 then C.named (classC code)
    else if C.phase = 5 then (if classC code = 3 then ({ C with phase := 6 }, lnStuff (lnSplit C.body).1) else C.fail (classC code) Rc.taken)
    else if C.phase = 6 then ((if classC code = 2 then C.become 1 Rc.taken else C).fail (classC code) Rc.taken)
    else if C.phase = 7 ∨ C.phase = 8 then ({ C with phase := 8 }, [])
    else C.opening (classC code)) := rfl
  have HCL := Lib.hid (fun w' => class_any code w' hc1 hc2)
  have HS := Lib.hid S
  have HLEN : Hid ((C.become 1 Rc.taken).tos.length ≤ 1000) := by unfold Hid; rw [become_len]; exact hn10
  have H10 := Lib.hid hn10
  have HBL : Hid (C.body.length ≤ 5000) := by have := K.body; unfold Hid; omega
  have HE := Lib.hid E
  by_cases p4 : C.phase = 4
  · have HN := Lib.hid (clNamedS (classC code) K p4 S E)
    have HV : Hid (C.take code = C.named (classC code)) := by unfold Hid; rw [HT.out, if_pos p4]
    have c0 := S.cell
    unfold clCells at c0
    have q4 : (C.phase == 4) = true := by simpa using p4
    clear S E K egT hn10 p4 HT HB1 HF HO
    generalize classC code = cl at *
    go_enter Tryz.func12, Tryz.ntmps12
    go_wp2_with fail
    refine (HCL.out _).mono ?_
    rintro e wq ⟨rfl, rfl⟩
    go_wp2_with fail
    refine HN.out.mono ?_
    rintro e w2 ⟨rfl, S⟩
    have HS2 := Lib.hid S
    clear S
    go_wp2
    go_ret
    rw [HV.out]
    exact ⟨rfl, HS2.out⟩
  have q4 : (C.phase == 4) = false := by simpa using p4
  by_cases p5 : C.phase = 5
  · have q5 : (C.phase == 5) = true := by simpa using p5
    have c0 := S.cell
    unfold clCells at c0
    by_cases h3 : classC code = 3
    · have HV : Hid (C.take code = ({ C with phase := 6 }, lnStuff (lnSplit C.body).1)) := by unfold Hid; rw [HT.out, if_neg p4, if_pos p5, if_pos h3]
      have b3 : (classC code != 3) = false := by rw [h3]; rfl
      have f0 := S.free
      have HS6 := Lib.hid (S.set (o := 5) (.int .i64 6))
      have c6 := HS6.out.cell
      unfold clCells at c6
      have hsf := split_facts C.body crlf
      have HSF : Hid ((lnSplit C.body).1.length ≤ 1000000 ∧ ∀ s ∈ (lnSplit C.body).1, s.length ≤ 1000000) := by
        have := HBL.out
        unfold Hid lnSplit
        refine ⟨by rw [List.length_dropLast]; omega, fun s hs => ?_⟩
        have := hsf.2.2 s ((List.dropLast_sublist _).subset hs)
        omega
      clear S E K egT hn10 p4 p5 HT HB1 HF HO h3 hsf
      generalize classC code = cl at *
      go_enter Tryz.func12, Tryz.ntmps12
      go_wp2_with fail
      refine (HCL.out _).mono ?_
      rintro e wq ⟨rfl, rfl⟩
      go_wp2_with fail
      refine (lnSplitS C.body HE.out (by have := HBL.out; omega) HS6.out).mono ?_
      rintro e w2 ⟨v2, rfl, S, T⟩
      have HS2 := Lib.hid S
      have HT2 := Lib.hid T
      clear S T c0 f0 c6 HS6
      go_wp2_with fail
      refine (lnStuffS (lnSplit C.body).1 HSF.out.1 HSF.out.2 HT2.out HS2.out).mono ?_
      rintro e w3 ⟨rfl, S⟩
      have HS3 := Lib.hid S
      clear S HS2
      go_wp2
      go_ret
      rw [HV.out]
      exact ⟨rfl, HS3.out⟩
    · have HV : Hid (C.take code = C.fail (classC code) Rc.taken) := by unfold Hid; rw [HT.out, if_neg p4, if_pos p5, if_neg h3]
      have b3 : (classC code != 3) = true := by simpa using h3
      have HF2 := Lib.hid (HF.out C w H10.out S)
      clear S E K egT hn10 p4 p5 HT HB1 HF HO h3
      generalize classC code = cl at *
      go_enter Tryz.func12, Tryz.ntmps12
      go_wp2_with fail
      refine (HCL.out _).mono ?_
      rintro e wq ⟨rfl, rfl⟩
      go_wp2_with fail
      refine HF2.out.mono ?_
      rintro e w2 ⟨rfl, S⟩
      have HS2 := Lib.hid S
      clear S
      go_wp2
      go_ret
      rw [HV.out]
      exact ⟨rfl, HS2.out⟩
  have q5 : (C.phase == 5) = false := by simpa using p5
  by_cases p6 : C.phase = 6
  · have q6 : (C.phase == 6) = true := by simpa using p6
    have c0 := S.cell
    unfold clCells at c0
    by_cases h2 : classC code = 2
    · have HV : Hid (C.take code = (C.become 1 Rc.taken).fail (classC code) Rc.taken) := by unfold Hid; rw [HT.out, if_neg p4, if_neg p5, if_pos p6, if_pos h2]
      have b2 : (classC code == 2) = true := by rw [h2]; rfl
      have HF2 := Lib.hid (fun w' S' => HF.out (C.become 1 Rc.taken) w' HLEN.out S')
      clear S E K egT hn10 p4 p5 p6 HT HF HO h2
      generalize classC code = cl at *
      generalize C.become 1 Rc.taken = D at *
      go_enter Tryz.func12, Tryz.ntmps12
      go_wp2_with fail
      refine (HCL.out _).mono ?_
      rintro e wq ⟨rfl, rfl⟩
      go_wp2_with fail
      refine HB1.out.mono ?_
      rintro e w2 ⟨rfl, S⟩
      have HS2 := Lib.hid S
      clear S c0
      go_wp2_with fail
      refine (HF2.out _ HS2.out).mono ?_
      rintro e w3 ⟨rfl, S⟩
      have HS3 := Lib.hid S
      clear S
      go_wp2
      go_ret
      rw [HV.out]
      exact ⟨rfl, HS3.out⟩
    · have HV : Hid (C.take code = C.fail (classC code) Rc.taken) := by unfold Hid; rw [HT.out, if_neg p4, if_neg p5, if_pos p6, if_neg h2]
      have b2 : (classC code == 2) = false := by simpa using h2
      have HF2 := Lib.hid (HF.out C w H10.out S)
      clear S E K egT hn10 p4 p5 p6 HT HB1 HF HO h2
      generalize classC code = cl at *
      go_enter Tryz.func12, Tryz.ntmps12
      go_wp2_with fail
      refine (HCL.out _).mono ?_
      rintro e wq ⟨rfl, rfl⟩
      go_wp2_with fail
      refine HF2.out.mono ?_
      rintro e w2 ⟨rfl, S⟩
      have HS2 := Lib.hid S
      clear S
      go_wp2
      go_ret
      rw [HV.out]
      exact ⟨rfl, HS2.out⟩
  have q6 : (C.phase == 6) = false := by simpa using p6
  by_cases p78 : C.phase = 7 ∨ C.phase = 8
  · have HV : Hid (C.take code = ({ C with phase := 8 }, [])) := by unfold Hid; rw [HT.out, if_neg p4, if_neg p5, if_neg p6, if_pos p78]
    have hor : (C.phase == 7) = true ∨ ((C.phase == 7) = false ∧ (C.phase == 8) = true) := by
      rcases p78 with h | h
      · exact .inl (by simpa using h)
      · exact .inr ⟨by rw [h]; rfl, by simpa using h⟩
    have c0 := S.cell
    have f0 := S.free
    have HS8 := Lib.hid (S.set (o := 5) (.int .i64 8))
    unfold clCells at c0
    clear S E K egT hn10 p4 p5 p6 HT HB1 HF HO p78
    generalize classC code = cl at *
    rcases hor with q7 | ⟨q7, q8⟩
    all_goals
      go_enter Tryz.func12, Tryz.ntmps12
      go_wp2_with fail
      refine (HCL.out _).mono ?_
      rintro e wq ⟨rfl, rfl⟩
      go_wp2
      go_ret
      rw [HV.out]
      exact ⟨rfl, HS8.out⟩
  · have HV : Hid (C.take code = C.opening (classC code)) := by unfold Hid; rw [HT.out, if_neg p4, if_neg p5, if_neg p6, if_neg p78]
    have q7 : (C.phase == 7) = false := by simp; omega
    have q8 : (C.phase == 8) = false := by simp; omega
    have c0 := S.cell
    unfold clCells at c0
    clear S E K egT hn10 p4 p5 p6 HT HB1 HF p78
    generalize classC code = cl at *
    go_enter Tryz.func12, Tryz.ntmps12
    go_wp2_with fail
    refine (HCL.out _).mono ?_
    rintro e wq ⟨rfl, rfl⟩
    go_wp2_with fail
    refine HO.out.mono ?_
    rintro e w2 ⟨rfl, S⟩
    have HS2 := Lib.hid S
    clear S
    go_wp2
    go_ret
    rw [HV.out]
    exact ⟨rfl, HS2.out⟩
end
end Go.Proofs.YtldlbiodllgflaaGreatDoor
