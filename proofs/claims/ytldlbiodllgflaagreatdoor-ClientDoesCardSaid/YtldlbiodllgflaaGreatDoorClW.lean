/- client: send, leave, greet, mail, waits, taken, become, fail. Conditions: the lengths fit; what Go's variables hold. -/
import Derived.Test.YtldlbiodllgflaaGreatDoorClP
import Derived.Test.YtldlbiodllgflaaGreatDoorCmS
import Derived.Test.YtldlbiodllgflaaGreatDoorLnV
import Derived.Test.YtldlbiodllgflaaGreatDoorRowS
set_option linter.unusedSimpArgs false
set_option linter.unusedVariables false
set_option linter.unnecessarySimpa false
namespace Go.Proofs.YtldlbiodllgflaaGreatDoor
open Go.RowKit

def clCells (C : Cl) (v : Value) : Array Value := #[.string ⟨C.host.toArray⟩, .string ⟨C.from_.1.toArray⟩, .string ⟨C.from_.2.toArray⟩, v, .string ⟨C.body.toArray⟩, .int .i64 C.phase, .int .i64 C.at_]
abbrev clB (p : Nat) (C : Cl) (v : Value) : Res := boxR p (clCells C v) 69
def Rc.vals (r : Rc) : List Value := [.string ⟨r.box.1.toArray⟩, .string ⟨r.box.2.toArray⟩, .int .i64 r.state, .bool r.acc]
def rcAgg (r : Rc) : Value := .agg #[.string ⟨r.box.1.toArray⟩, .string ⟨r.box.2.toArray⟩, .int .i64 r.state, .bool r.acc]
abbrev rcsR (v : Value) (l : List Rc) : Res := rowR 71 4 v l.length (l.map Rc.vals).flatten
theorem rcVals_len (l : List Rc) : ∀ x ∈ l.map Rc.vals, x.length = 4 := fun x hx => by
  obtain ⟨r, _, rfl⟩ := List.mem_map.1 hx
  rfl
section
variable {w0 w : World} {L : List Res} {p : Nat} {v : Value} {C : Cl}
set_option maxRecDepth 100000 in
set_option maxHeartbeats 1000000 in
theorem clSendS (x : Cm) (ph : Int) (S : Sp w0 [] w (clB p C v :: L)) (E : Env w0) (F : CmS x) :
    Calls Tryz.prog 85 #[.pointer (some ⟨p, 0, none⟩), cmAgg x, .int .i64 ph] w fun e w2 => e = .returned (.string ⟨(C.send x ph).2.toArray⟩) ∧ Sp w0 [] w2 (clB p (C.send x ph).1 v :: L) := by
  have HE := Lib.hid E
  have HF := Lib.hid F
  have HV : Hid ((C.send x ph).2 = lnJoin [(cmWrite x).1]) := rfl
  have HLEN := Lib.hid F.len
  have HW := Lib.hid (fun (w' : World) (L' : List Res) (S : Sp w0 [] w' L') => cmWriteS x S E F.fit)
  have HC : Hid ((clCells C v).setIfInBounds 5 (.int .i64 ph) = clCells (C.send x ph).1 v) := rfl
  have hps := S.boxlt
  have c0 := S.cell
  have f0 := S.free
  have HS1 := Lib.hid ((S.set (o := 5) (.int .i64 ph)).box (cmCells x) 57)
  rw [HC.out, show (w.setCell ⟨p, 5, none⟩ (.int .i64 ph)).heap.size = w.heap.size by simp] at HS1
  generalize (C.send x ph).1 = C2 at *
  obtain ⟨host, ⟨fl, fd⟩, tos, body, phase, at_⟩ := C
  obtain ⟨xv, xt, ⟨xl, xd⟩, xz, xe⟩ := x
  unfold cmAgg cmCells at *
  unfold clCells at c0
  dsimp only at *
  generalize cmWrite ⟨xv, xt, (xl, xd), xz, xe⟩ = q at *
  obtain ⟨s, es⟩ := q
  dsimp only at *
  clear S E F HC
  go_enter Tryz.func85, Tryz.ntmps85
  have c1 := HS1.out.cell
  go_wp2_with fail
  refine (HW.out _ _ HS1.out).mono ?_
  generalize w.heap.size = b at *
  rintro e w2 ⟨rfl, S⟩
  have HS2 := Lib.hid (S.drop.box #[.string ⟨s.toArray⟩] 9)
  clear S HS1 c0 f0 c1 HW
  go_wp2_with fail
  refine (lnJoinS [s] (by simp) (by simp) (by simpa using Nat.le_trans HLEN.out (by decide)) ⟨_, _, rfl, by simp [maxLen], .inr ⟨_, 0, rfl, fun i hi => by
    have : i = 0 := by simp at hi; omega
    subst this
    exact HS2.out.cell 0⟩⟩ HS2.out).mono ?_
  rintro e w3 ⟨rfl, S⟩
  have HS3 := Lib.hid S.drop
  clear S HS2
  go_wp2
  go_ret
  rw [HV.out]
  exact ⟨rfl, HS3.out⟩
/-- What a method of a client hands back: a text, and the client. -/
def OutC (w0 : World) (L : List Res) (p : Nat) (v : Value) (q : Cl × Bs) (e : Ending) (w2 : World) : Prop := e = .returned (.string ⟨q.2.toArray⟩) ∧ Sp w0 [] w2 (clB p q.1 v :: L)
set_option maxRecDepth 100000 in
theorem clLeaveS (S : Sp w0 [] w (clB p C v :: L)) (E : Env w0) : Calls Tryz.prog 67 #[.pointer (some ⟨p, 0, none⟩)] w (OutC w0 L p v C.leave) := by
  have H := Lib.hid (clSendS ⟨8, [], ([], []), 0, false⟩ 7 S E ⟨by simp, by simp, by simp, by decide, by decide⟩)
  unfold cmAgg at H
  dsimp only at H
  clear S E
  go_enter Tryz.func67, Tryz.ntmps67
  go_wp2_with fail
  refine H.out.mono ?_
  rintro e w2 ⟨rfl, S⟩
  have HS := Lib.hid S
  clear S
  go_wp2
  go_ret
  exact ⟨rfl, HS.out⟩
set_option maxRecDepth 100000 in
theorem clGreetS (verb ph : Int) (hh : C.host.length ≤ 2048) (S : Sp w0 [] w (clB p C v :: L)) (E : Env w0) : Calls Tryz.prog 71 #[.pointer (some ⟨p, 0, none⟩), .int .i64 verb, .int .i64 ph] w (OutC w0 L p v (C.greet verb ph)) := by
  have H := Lib.hid (clSendS ⟨verb, C.host, ([], []), 0, false⟩ ph S E ⟨hh, by simp, by simp, (show (-9223372036854775808 : Int) ≤ 0 by decide), (show (0 : Int) ≤ 9223372036854775807 by decide)⟩)
  have HV : Hid (C.greet verb ph = C.send ⟨verb, C.host, ([], []), 0, false⟩ ph) := rfl
  unfold cmAgg at H
  dsimp only at H
  have c0 := S.cell
  rw [HV.out]
  generalize C.send ⟨verb, C.host, ([], []), 0, false⟩ ph = q at *
  obtain ⟨host, ⟨fl, fd⟩, tos, body, phase, at_⟩ := C
  unfold clCells at c0
  dsimp only at *
  clear S E
  go_enter Tryz.func71, Tryz.ntmps71
  go_wp2_with fail
  refine H.out.mono ?_
  rintro e w2 ⟨rfl, S⟩
  have HS := Lib.hid S
  clear S c0
  go_wp2
  go_ret
  exact ⟨rfl, HS.out⟩
set_option maxRecDepth 100000 in
theorem clMailS (z : Int) (h1 : -9223372036854775808 ≤ z) (h2 : z ≤ 9223372036854775807) (hl : C.from_.1.length ≤ 2048) (hd : C.from_.2.length ≤ 2048) (S : Sp w0 [] w (clB p C v :: L)) (E : Env w0) : Calls Tryz.prog 72 #[.pointer (some ⟨p, 0, none⟩), .int .i64 z] w (OutC w0 L p v (C.mail z)) := by
  have H := Lib.hid (clSendS ⟨3, [], C.from_, z, false⟩ 3 S E ⟨by simp, hl, hd, h1, h2⟩)
  have HV : Hid (C.mail z = C.send ⟨3, [], C.from_, z, false⟩ 3) := rfl
  unfold cmAgg at H
  dsimp only at H
  have c0 := S.cell
  rw [HV.out]
  generalize C.send ⟨3, [], C.from_, z, false⟩ 3 = q at *
  obtain ⟨host, ⟨fl, fd⟩, tos, body, phase, at_⟩ := C
  unfold clCells at c0
  dsimp only at *
  clear S E hl hd
  go_enter Tryz.func72, Tryz.ntmps72
  go_wp2_with fail
  refine H.out.mono ?_
  rintro e w2 ⟨rfl, S⟩
  have HS := Lib.hid S
  clear S c0
  go_wp2
  go_ret
  exact ⟨rfl, HS.out⟩
set_option maxRecDepth 100000 in
theorem rcWaits_any (r : Rc) (w : World) : Calls Tryz.prog 68 #[rcAgg r] w fun e w2 => e = .returned (.bool r.waits) ∧ Ext [] w w2 := by
  have HV : Hid (r.waits = (r.state == 0)) := rfl
  obtain ⟨⟨rl, rd⟩, st, ac⟩ := r
  unfold rcAgg
  dsimp only at *
  go_enter Tryz.func68, Tryz.ntmps68
  go_wp2
  go_ret
  exact ⟨ret_bool (by rw [HV.out]), (Ext.refl _ _).alloc _⟩
set_option maxRecDepth 100000 in
theorem rcTaken_any (r : Rc) (w : World) : Calls Tryz.prog 36 #[rcAgg r] w fun e w2 => e = .returned (.bool r.taken) ∧ Ext [] w w2 := by
  have HV : Hid (r.taken = (r.waits && r.acc)) := rfl
  have H := Lib.hid (fun w' => rcWaits_any r w')
  have HS := Lib.hid ((Sp.nil w []).box #[.string ⟨r.box.1.toArray⟩, .string ⟨r.box.2.toArray⟩, .int .i64 r.state, .bool r.acc] 71)
  generalize r.waits = b at *
  rw [HV.out]
  obtain ⟨⟨rl, rd⟩, st, ac⟩ := r
  unfold rcAgg at *
  dsimp only at *
  go_enter Tryz.func36, Tryz.ntmps36
  go_wp2_with fail
  refine (H.out _).mono ?_
  generalize w.heap.size = g at *
  rintro e w2 ⟨rfl, hx⟩
  have S2 := HS.out.ext0 hx
  have c2 := S2.cell
  have HX := Lib.hid S2.ext
  clear hx S2 HS
  cases b with
  | true =>
    go_wp2
    go_ret
    exact ⟨rfl, HX.out⟩
  | false =>
    go_wp2
    go_ret
    exact ⟨rfl, HX.out⟩
end
end Go.Proofs.YtldlbiodllgflaaGreatDoor
