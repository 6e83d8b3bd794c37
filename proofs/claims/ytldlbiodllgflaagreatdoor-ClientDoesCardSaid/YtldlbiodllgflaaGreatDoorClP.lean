/- client, plainly: its phases, its recipients' states, what it sends. No program. -/
import Derived.Test.YtldlbiodllgflaaGreatDoorCmP
import Derived.Test.YtldlbiodllgflaaGreatDoorLnP
set_option linter.unusedSimpArgs false
set_option linter.unusedVariables false
set_option linter.unnecessarySimpa false
namespace Go.Proofs.YtldlbiodllgflaaGreatDoor

/-- A recipient: its mailbox, its state (0 waits, 1 done, 2 failed), whether it was accepted. -/
structure Rc where
  box : Mb
  state : Int
  acc : Bool
def Rc.waits (r : Rc) : Bool := r.state == 0
def Rc.taken (r : Rc) : Bool := r.state == 0 && r.acc
/-- A client. -/
structure Cl where
  host : Bs
  from_ : Mb
  tos : List Rc
  body : Bs
  phase : Int
  at_ : Nat
def Cl.send (C : Cl) (x : Cm) (ph : Int) : Cl × Bs := ({ C with phase := ph }, lnJoin [(cmWrite x).1])
def Cl.leave (C : Cl) : Cl × Bs := C.send ⟨8, [], ([], []), 0, false⟩ 7
def Cl.become (C : Cl) (st : Int) (p : Rc → Bool) : Cl := { C with tos := C.tos.map fun r => if p r then { r with state := st } else r }
def Cl.fail (C : Cl) (cls : Int) (p : Rc → Bool) : Cl × Bs := (if cls = 5 then C.become 2 p else C).leave
def Cl.greet (C : Cl) (verb ph : Int) : Cl × Bs := C.send ⟨verb, C.host, ([], []), 0, false⟩ ph
def Cl.mail (C : Cl) (size : Int) : Cl × Bs := C.send ⟨3, [], C.from_, size, false⟩ 3
def Cl.name (C : Cl) : Cl × Bs := match C.tos[C.at_]? with
  | some r => C.send ⟨4, [], r.box, 0, false⟩ 4
  | none => if C.tos.any Rc.taken then C.send ⟨5, [], ([], []), 0, false⟩ 5 else C.leave
def Cl.opening (C : Cl) (cls : Int) : Cl × Bs :=
  if C.phase = 0 ∧ cls = 2 then C.greet 2 1
  else if C.phase = 1 ∧ cls = 2 then C.mail C.body.length
  else if C.phase = 1 ∧ cls = 5 then C.greet 1 2
  else if C.phase = 1 then C.leave
  else if C.phase = 2 ∧ cls = 2 then C.mail (-1)
  else if C.phase = 3 ∧ cls = 2 then C.name
  else C.fail cls Rc.waits
def Rc.told (r : Rc) (cls : Int) : Rc := if cls = 2 then { r with acc := true } else if cls = 5 then { r with state := 2 } else r
def Cl.named (C : Cl) (cls : Int) : Cl × Bs := ({ C with tos := C.tos.modify C.at_ (·.told cls), at_ := C.at_ + 1 } : Cl).name
def Cl.take (C : Cl) (code : Int) : Cl × Bs :=
  if C.phase = 4 then C.named (classC code)
  else if C.phase = 5 then (if classC code = 3 then ({ C with phase := 6 }, lnStuff (lnSplit C.body).1) else C.fail (classC code) Rc.taken)
  else if C.phase = 6 then ((if classC code = 2 then C.become 1 Rc.taken else C).fail (classC code) Rc.taken)
  else if C.phase = 7 ∨ C.phase = 8 then ({ C with phase := 8 }, [])
  else C.opening (classC code)
def bodyOk (b : Bs) : Bool := (lnSplit b).2 == [] && (lnSplit b).1.all fun s => decide (s.length ≤ 998)
def clNew (host : Bs) (fr : Mb) (tos : List Mb) (body : Bs) : Option Cl × Int :=
  if (domV host).2 ≠ 0 ∨ (domV host).1 ≠ host ∨ (noBoxE fr = false ∧ mbMay fr = false) ∨ tos.length = 0 ∨ 10 < tos.length then (none, 1)
  else if tos.all mbMay = false then (none, 1)
  else if bodyOk body = false then (none, 2)
  else (some ⟨host, fr, tos.map fun b => ⟨b, 0, false⟩, body, 0, 0⟩, 0)
end Go.Proofs.YtldlbiodllgflaaGreatDoor
