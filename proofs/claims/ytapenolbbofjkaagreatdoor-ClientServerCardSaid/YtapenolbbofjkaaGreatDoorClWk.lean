/- cmd: Class. Conditions: the number fits. Commands that are short: their lines are. No condition. Rows of structs as parts: a cell stored. No condition. client: send, leave, greet, mail, waits, taken, become, fail. Conditions: the lengths fit; what Go's variables hold. client: become, fail, name. Conditions: the lengths fit; what Go's variables hold. client: phases told, the openings, a recipient named, Take. Conditions: the client is one that was made; what Go's variables hold. client: the states told, mailboxes turned, bodies looked at, a client made. Conditions: the lengths fit; what Go's variables hold. client: New, Play. Conditions: the lengths fit; what Go's variables hold. client: Play. Conditions: the client is one that was made; what Go's variables hold. law 22: some, awake, large, same. Conditions: what Go's variables hold; the lengths fit. law 22: large, same. Conditions: the lengths fit. -/
import Derived.Test.YtapenolbbofjkaaGreatDoorCmP
import Derived.Test.YtapenolbbofjkaaGreatDoorSp
import Derived.Test.YtapenolbbofjkaaGreatDoorAdW
import Derived.Test.YtapenolbbofjkaaGreatDoorCmW6
import Derived.Test.YtapenolbbofjkaaGreatDoorRow0
import Derived.Test.YtapenolbbofjkaaGreatDoorBv
import Derived.Test.YtapenolbbofjkaaGreatDoorClPl
import Derived.Test.YtapenolbbofjkaaGreatDoorLnV
import Derived.Test.YtapenolbbofjkaaGreatDoorChainG
import Derived.Test.YtapenolbbofjkaaGreatDoorGen
import Derived.Shelf.SlicesQ.IndexFunc
import Derived.Test.YtapenolbbofjkaaGreatDoorLnW
import Derived.Test.YtapenolbbofjkaaGreatDoorArgs0
import Derived.Deep.RegionLaw
import Derived.Deep.DeepCutAuto
/-! CmK -/
set_option linter.unusedSimpArgs false
set_option linter.unusedVariables false
set_option linter.unnecessarySimpa false
namespace Go.Proofs.YtapenolbbofjkaaGreatDoor
open Go.RowKit

set_option maxRecDepth 100000 in
theorem class_anyK (code : Int) (w : World) (h1 : -9223372036854775808 ≤ code) (h2 : code ≤ 9223372036854775807) : Calls Tryz.prog 48 #[.int .i64 code] w fun e w2 => e = .returned (.int .i64 (classC code)) ∧ w = w2 := by
  by_cases h : code < 200 ∨ 599 < code
  · have HV : Hid (classC code = 0) := by unfold Hid classC; rw [if_pos h]
    rcases h with h | h
    · go_enter Tryz.func48, Tryz.ntmps48
      go_wp2
      go_ret
      rw [HV.out]
      exact ⟨rfl, rfl⟩
    · have h' : 200 ≤ code := by omega
      go_enter Tryz.func48, Tryz.ntmps48
      go_wp2
      go_ret
      rw [HV.out]
      exact ⟨rfl, rfl⟩
  · have HV : Hid (classC code = code.tdiv 100) := by unfold Hid classC; rw [if_neg h]
    have h3 : 200 ≤ code := by omega
    have h4 : code ≤ 599 := by omega
    have HT : Hid (code.tdiv 100 = code / 100) := Int.tdiv_eq_ediv_of_nonneg (by omega)
    clear h
    go_enter Tryz.func48, Tryz.ntmps48
    go_wp2
    go_ret
    rw [HV.out]
    exact ⟨by rw [HT.out]; rfl, rfl⟩
end Go.Proofs.YtapenolbbofjkaaGreatDoor

/-! CmS -/
namespace Go.Proofs.YtapenolbbofjkaaGreatDoor
open Go.RowKit

theorem mbPath_short (b : Mb) : (mbPath b).1.length ≤ 2 * b.1.length + b.2.length + 10 := by
  unfold mbPath
  split
  · simp
  · split
    · unfold mbText
      have := quotedB_len b.1
      split <;> simp only [List.length_cons, List.length_append, List.length_nil] <;> omega
    · simp
theorem cmWrite_short {c : Cm} (h1 : c.text.length ≤ 2048) (h2 : c.box.1.length ≤ 2048) (h3 : c.box.2.length ≤ 2048) (hz : c.size ≤ 9223372036854775807) : (cmWrite c).1.length ≤ 100000 := by
  have hp := mbPath_short c.box
  have hv := verb_len c.verb
  have h3 : 0 ≤ c.size → (Lib.decDigits c.size.toNat).length ≤ 20 := fun h => dec_len20 (by omega)
  have hb : (besideC c).1.length ≤ 90000 := by
    unfold besideC greetC fromC toC
    repeat' split
    all_goals first
      | (simp; done)
      | (simp only [List.length_cons, List.length_append, List.length_nil, fromW, sizeW, bodyW, toW]; omega)
      | (rename_i hz; have := h3 (by assumption); simp only [List.length_cons, List.length_append, List.length_nil, fromW, sizeW, bodyW, toW]; omega)
  unfold cmWrite
  split
  · simp
  · split
    · rw [List.length_append]; omega
    · simp
/-- A command that is short. -/
structure CmS (c : Cm) : Prop where
  text : c.text.length ≤ 2048
  loc : c.box.1.length ≤ 2048
  dom : c.box.2.length ≤ 2048
  lo : -9223372036854775808 ≤ c.size
  hi : c.size ≤ 9223372036854775807
theorem CmS.fit {c : Cm} (h : CmS c) : CmFit c := ⟨by have := h.text; omega, by have := h.loc; omega, by have := h.dom; omega, h.lo, h.hi⟩
theorem CmS.len {c : Cm} (h : CmS c) : (cmWrite c).1.length ≤ 100000 := cmWrite_short h.text h.loc h.dom h.hi
end Go.Proofs.YtapenolbbofjkaaGreatDoor

/-! RowS -/
namespace Go.Proofs.YtapenolbbofjkaaGreatDoor
open Go.RowKit

theorem flat_set : ∀ (rs : List (List Value)) (k i j : Nat) (r : List Value) (u : Value), (∀ x ∈ rs, x.length = k) → rs[i]? = some r → j < k → rs.flatten.set (i * k + j) u = (rs.set i (r.set j u)).flatten
  | [], _, _, _, _, _, _, h, _ => by simp at h
  | x :: rs, k, 0, j, r, u, hl, h, hj => by
    simp only [List.getElem?_cons_zero, Option.some.injEq] at h
    subst h
    rw [List.flatten_cons, List.set_cons_zero, List.flatten_cons, Nat.zero_mul, Nat.zero_add, List.set_append_left _ _ (by rw [hl x (by simp)]; exact hj)]
  | x :: rs, k, i + 1, j, r, u, hl, h, hj => by
    simp only [List.getElem?_cons_succ] at h
    have h1 := flat_set rs k i j r u (fun y hy => hl y (by simp [hy])) h hj
    have hx := hl x (by simp)
    rw [List.flatten_cons, List.set_cons_succ, List.flatten_cons, List.set_append_right _ _ (by rw [hx, Nat.add_mul]; omega), hx, ← h1]
    congr 2
    rw [Nat.add_mul]
    omega
theorem flat_len : ∀ (rs : List (List Value)) (k : Nat), (∀ x ∈ rs, x.length = k) → rs.flatten.length = rs.length * k
  | [], k, _ => by simp
  | x :: rs, k, h => by
    rw [List.flatten_cons, List.length_append, flat_len rs k (fun y hy => h y (by simp [hy])), h x (by simp), List.length_cons, Nat.add_mul]
    omega
section
variable {w0 w : World} {F0 : List Nat} {L : List Res} {e k n g cap : Nat}
theorem Sp.rowFree {xs : List Value} (S : Sp w0 F0 w (rowR e k (.slice (some ⟨g, 0, none⟩) n cap) n xs :: L)) (o : Nat) : w.frozen? ⟨g, o, none⟩ = false := by
  rcases S.row.2 with ⟨h, _⟩ | ⟨g2, cap2, cur, h, _, hg, _⟩
  · cases h
  · cases h
    simp [World.frozen?, hg]
theorem Sp.rowLt {xs : List Value} (S : Sp w0 F0 w (rowR e k (.slice (some ⟨g, 0, none⟩) n cap) n xs :: L)) : g < w.heap.size := (S.row.lt g rfl).2
/-- One cell of a row is stored. -/
theorem Sp.rowSet {rs : List (List Value)} (S : Sp w0 F0 w (rowR e k (.slice (some ⟨g, 0, none⟩) n cap) n rs.flatten :: L)) (hl : ∀ x ∈ rs, x.length = k) {i : Nat} {r : List Value} (hr : rs[i]? = some r) {j : Nat} (hj : j < k) (u : Value) :
    Sp w0 F0 (w.setCell ⟨g, i * k + j, none⟩ u) (rowR e k (.slice (some ⟨g, 0, none⟩) n cap) n (rs.set i (r.set j u)).flatten :: L) := by
  obtain ⟨F, ⟨rfl, h⟩, hk⟩ := S.take
  rcases h.2 with ⟨h1, _⟩ | ⟨g2, cap2, cur, h1, h2, h3, h4, h5, h6, h7⟩
  · cases h1
  · cases h1
    refine hk _ _ [g] ⟨rfl, ?_, .inr ⟨g, cap, cur.setIfInBounds (i * k + j) u, rfl, h2, heap_setCell_same h3 u, h4, h5, by simpa using h6, ?_⟩⟩ (Moved.of_ext ((Ext.refl _ w).setCell (by simp [Value.ownBlock]) u))
    · rw [← flat_set rs k i j r u hl hr hj, List.length_set]
      exact h.1
    · rw [← flat_set rs k i j r u hl hr hj, ← h7, Array.toList_setIfInBounds, List.take_set]
end
end Go.Proofs.YtapenolbbofjkaaGreatDoor

/-! ClW -/
namespace Go.Proofs.YtapenolbbofjkaaGreatDoor
open Go.RowKit

def clCells (C : Cl) (v : Value) : Array Value := #[.string ⟨C.host.toArray⟩, .string ⟨C.from_.1.toArray⟩, .string ⟨C.from_.2.toArray⟩, v, .string ⟨C.body.toArray⟩, .int .i64 C.phase, .int .i64 C.at_]
abbrev clB (p : Nat) (C : Cl) (v : Value) : Res := boxR p (clCells C v) 101
def Rc.vals (r : Rc) : List Value := [.string ⟨r.box.1.toArray⟩, .string ⟨r.box.2.toArray⟩, .int .i64 r.state, .bool r.acc]
def rcAgg (r : Rc) : Value := .agg #[.string ⟨r.box.1.toArray⟩, .string ⟨r.box.2.toArray⟩, .int .i64 r.state, .bool r.acc]
abbrev rcsR (v : Value) (l : List Rc) : Res := rowR 103 4 v l.length (l.map Rc.vals).flatten
theorem rcVals_len (l : List Rc) : ∀ x ∈ l.map Rc.vals, x.length = 4 := fun x hx => by
  obtain ⟨r, _, rfl⟩ := List.mem_map.1 hx
  rfl
section
variable {w0 w : World} {L : List Res} {p : Nat} {v : Value} {C : Cl}
set_option maxRecDepth 100000 in
set_option maxHeartbeats 1000000 in
theorem clSendS (x : Cm) (ph : Int) (S : Sp w0 [] w (clB p C v :: L)) (E : Env w0) (F : CmS x) :
    Calls Tryz.prog 129 #[.pointer (some ⟨p, 0, none⟩), cmAgg x, .int .i64 ph] w fun e w2 => e = .returned (.string ⟨(C.send x ph).2.toArray⟩) ∧ Sp w0 [] w2 (clB p (C.send x ph).1 v :: L) := by
  have HE := Lib.hid E
  have HF := Lib.hid F
  have HV : Hid ((C.send x ph).2 = lnJoin [(cmWrite x).1]) := rfl
  have HLEN := Lib.hid F.len
  have HW := Lib.hid (fun (w' : World) (L' : List Res) (S : Sp w0 [] w' L') => cmWriteS x S E F.fit)
  have HC : Hid ((clCells C v).setIfInBounds 5 (.int .i64 ph) = clCells (C.send x ph).1 v) := rfl
  have hps := S.boxlt
  have c0 := S.cell
  have f0 := S.free
  have HS1 := Lib.hid ((S.set (o := 5) (.int .i64 ph)).box (cmCells x) 131)
  rw [HC.out, show (w.setCell ⟨p, 5, none⟩ (.int .i64 ph)).heap.size = w.heap.size by simp] at HS1
  generalize (C.send x ph).1 = C2 at *
  obtain ⟨host, ⟨fl, fd⟩, tos, body, phase, at_⟩ := C
  obtain ⟨xv, xt, ⟨xl, xd⟩, xz, xe⟩ := x
  unfold cmAgg cmCells at *
  unfold clCells at c0
  dsimp only at *
  generalize cmWrite ⟨xv, xt, (xl, xd), xz, xe⟩ = q at *
  obtain ⟨s, es⟩ := q
  dsimp only at *
  clear S E F HC
  go_enter Tryz.func129, Tryz.ntmps129
  have c1 := HS1.out.cell
  go_wp2_with fail
  refine (HW.out _ _ HS1.out).mono ?_
  generalize w.heap.size = b at *
  rintro e w2 ⟨rfl, S⟩
  have HS2 := Lib.hid (S.drop.box #[.string ⟨s.toArray⟩] 9)
  clear S HS1 c0 f0 c1 HW
  go_wp2_with fail
  refine (lnJoinS [s] (by simp) (by simp) (by simpa using Nat.le_trans HLEN.out (by decide)) ⟨_, _, rfl, by simp [maxLen], .inr ⟨_, 0, rfl, fun i hi => by
    have : i = 0 := by simp at hi; omega
    subst this
    exact HS2.out.cell 0⟩⟩ HS2.out).mono ?_
  rintro e w3 ⟨rfl, S⟩
  have HS3 := Lib.hid S.drop
  clear S HS2
  go_wp2
  go_ret
  rw [HV.out]
  exact ⟨rfl, HS3.out⟩
/-- What a method of a client hands back: a text, and the client. -/
def OutC (w0 : World) (L : List Res) (p : Nat) (v : Value) (q : Cl × Bs) (e : Ending) (w2 : World) : Prop := e = .returned (.string ⟨q.2.toArray⟩) ∧ Sp w0 [] w2 (clB p q.1 v :: L)
set_option maxRecDepth 100000 in
theorem clLeaveS (S : Sp w0 [] w (clB p C v :: L)) (E : Env w0) : Calls Tryz.prog 103 #[.pointer (some ⟨p, 0, none⟩)] w (OutC w0 L p v C.leave) := by
  have H := Lib.hid (clSendS ⟨8, [], ([], []), 0, false⟩ 7 S E ⟨by simp, by simp, by simp, by decide, by decide⟩)
  unfold cmAgg at H
  dsimp only at H
  clear S E
  go_enter Tryz.func103, Tryz.ntmps103
  go_wp2_with fail
  refine H.out.mono ?_
  rintro e w2 ⟨rfl, S⟩
  have HS := Lib.hid S
  clear S
  go_wp2
  go_ret
  exact ⟨rfl, HS.out⟩
set_option maxRecDepth 100000 in
theorem clGreetS (verb ph : Int) (hh : C.host.length ≤ 2048) (S : Sp w0 [] w (clB p C v :: L)) (E : Env w0) : Calls Tryz.prog 106 #[.pointer (some ⟨p, 0, none⟩), .int .i64 verb, .int .i64 ph] w (OutC w0 L p v (C.greet verb ph)) := by
  have H := Lib.hid (clSendS ⟨verb, C.host, ([], []), 0, false⟩ ph S E ⟨hh, by simp, by simp, (show (-9223372036854775808 : Int) ≤ 0 by decide), (show (0 : Int) ≤ 9223372036854775807 by decide)⟩)
  have HV : Hid (C.greet verb ph = C.send ⟨verb, C.host, ([], []), 0, false⟩ ph) := rfl
  unfold cmAgg at H
  dsimp only at H
  have c0 := S.cell
  rw [HV.out]
  generalize C.send ⟨verb, C.host, ([], []), 0, false⟩ ph = q at *
  obtain ⟨host, ⟨fl, fd⟩, tos, body, phase, at_⟩ := C
  unfold clCells at c0
  dsimp only at *
  clear S E
  go_enter Tryz.func106, Tryz.ntmps106
  go_wp2_with fail
  refine H.out.mono ?_
  rintro e w2 ⟨rfl, S⟩
  have HS := Lib.hid S
  clear S c0
  go_wp2
  go_ret
  exact ⟨rfl, HS.out⟩
set_option maxRecDepth 100000 in
theorem clMailS (z : Int) (h1 : -9223372036854775808 ≤ z) (h2 : z ≤ 9223372036854775807) (hl : C.from_.1.length ≤ 2048) (hd : C.from_.2.length ≤ 2048) (S : Sp w0 [] w (clB p C v :: L)) (E : Env w0) : Calls Tryz.prog 107 #[.pointer (some ⟨p, 0, none⟩), .int .i64 z] w (OutC w0 L p v (C.mail z)) := by
  have H := Lib.hid (clSendS ⟨3, [], C.from_, z, false⟩ 3 S E ⟨by simp, hl, hd, h1, h2⟩)
  have HV : Hid (C.mail z = C.send ⟨3, [], C.from_, z, false⟩ 3) := rfl
  unfold cmAgg at H
  dsimp only at H
  have c0 := S.cell
  rw [HV.out]
  generalize C.send ⟨3, [], C.from_, z, false⟩ 3 = q at *
  obtain ⟨host, ⟨fl, fd⟩, tos, body, phase, at_⟩ := C
  unfold clCells at c0
  dsimp only at *
  clear S E hl hd
  go_enter Tryz.func107, Tryz.ntmps107
  go_wp2_with fail
  refine H.out.mono ?_
  rintro e w2 ⟨rfl, S⟩
  have HS := Lib.hid S
  clear S c0
  go_wp2
  go_ret
  exact ⟨rfl, HS.out⟩
set_option maxRecDepth 100000 in
theorem rcWaits_any (r : Rc) (w : World) : Calls Tryz.prog 104 #[rcAgg r] w fun e w2 => e = .returned (.bool r.waits) ∧ Ext [] w w2 := by
  have HV : Hid (r.waits = (r.state == 0)) := rfl
  obtain ⟨⟨rl, rd⟩, st, ac⟩ := r
  unfold rcAgg
  dsimp only at *
  go_enter Tryz.func104, Tryz.ntmps104
  go_wp2
  go_ret
  exact ⟨ret_bool (by rw [HV.out]), (Ext.refl _ _).alloc _⟩
set_option maxRecDepth 100000 in
theorem rcTaken_any (r : Rc) (w : World) : Calls Tryz.prog 81 #[rcAgg r] w fun e w2 => e = .returned (.bool r.taken) ∧ Ext [] w w2 := by
  have HV : Hid (r.taken = (r.waits && r.acc)) := rfl
  have H := Lib.hid (fun w' => rcWaits_any r w')
  have HS := Lib.hid ((Sp.nil w []).box #[.string ⟨r.box.1.toArray⟩, .string ⟨r.box.2.toArray⟩, .int .i64 r.state, .bool r.acc] 103)
  generalize r.waits = b at *
  rw [HV.out]
  obtain ⟨⟨rl, rd⟩, st, ac⟩ := r
  unfold rcAgg at *
  dsimp only at *
  go_enter Tryz.func81, Tryz.ntmps81
  go_wp2_with fail
  refine (H.out _).mono ?_
  generalize w.heap.size = g at *
  rintro e w2 ⟨rfl, hx⟩
  have S2 := HS.out.ext0 hx
  have c2 := S2.cell
  have HX := Lib.hid S2.ext
  clear hx S2 HS
  cases b with
  | true =>
    go_wp2
    go_ret
    exact ⟨rfl, HX.out⟩
  | false =>
    go_wp2
    go_ret
    exact ⟨rfl, HX.out⟩
end
end Go.Proofs.YtapenolbbofjkaaGreatDoor

/-! ClV -/
namespace Go.Proofs.YtapenolbbofjkaaGreatDoor
open Go.RowKit

def becF (st : Int) (pr : Rc → Bool) (r : Rc) : Rc := if pr r then { r with state := st } else r
def becL (st : Int) (pr : Rc → Bool) (l : List Rc) (k : Nat) : List Rc := (l.take k).map (becF st pr) ++ l.drop k
theorem becL_len (st : Int) (pr : Rc → Bool) (l : List Rc) (k : Nat) : (becL st pr l k).length = l.length := by simp [becL]; omega
theorem becL_at (st : Int) (pr : Rc → Bool) (l : List Rc) (k : Nat) (h : k < l.length) : (becL st pr l k)[k]? = some l[k] := by
  unfold becL
  rw [List.getElem?_append_right (by simp; omega)]
  simp [Nat.min_eq_left (Nat.le_of_lt h), h]
theorem becL_next (st : Int) (pr : Rc → Bool) (l : List Rc) (k : Nat) (h : k < l.length) : becL st pr l (k + 1) = (becL st pr l k).set k (becF st pr l[k]) := by
  unfold becL
  have e2 : ((l.take k).map (becF st pr)).length = k := by simp; omega
  rw [List.take_succ_eq_append_getElem h, List.map_append, List.set_append_right _ _ (by omega), e2, Nat.sub_self, List.append_assoc]
  congr 1
  rw [List.drop_eq_getElem_cons h]
  rfl
theorem becL_all (st : Int) (pr : Rc → Bool) (l : List Rc) : becL st pr l l.length = l.map (becF st pr) := by simp [becL]
theorem becL_same (st : Int) (pr : Rc → Bool) (l : List Rc) (k : Nat) (h : k < l.length) (hp : pr l[k] = false) : becL st pr l (k + 1) = becL st pr l k := by
  rw [becL_next st pr l k h]
  unfold becF
  rw [if_neg (by rw [hp]; decide)]
  apply List.ext_getElem?
  intro i
  rw [List.getElem?_set]
  by_cases e : k = i
  · subst e
    rw [if_pos rfl, becL_at st pr l k h, if_pos (by rw [becL_len]; exact h)]
  · rw [if_neg e]
/-- A client in memory: its fields, its recipients. -/
abbrev clR (p : Nat) (C : Cl) (v : Value) (L : List Res) : List Res := clB p C v :: rcsR v C.tos :: L
section
variable {w0 w : World} {L : List Res} {p : Nat} {v : Value} {C : Cl}
theorem Sp.rcCells {g n cap : Nat} {F0 : List Nat} {l : List Rc} (S : Sp w0 F0 w (rowR 103 4 (.slice (some ⟨g, 0, none⟩) n cap) n (l.map Rc.vals).flatten :: L)) {k : Nat} {r : Rc} (h : l[k]? = some r) :
    w.cell? ⟨g, k * 4, none⟩ = some (.string ⟨r.box.1.toArray⟩) ∧ w.cell? ⟨g, k * 4 + 1, none⟩ = some (.string ⟨r.box.2.toArray⟩) ∧ w.cell? ⟨g, k * 4 + 2, none⟩ = some (.int .i64 r.state) ∧ w.cell? ⟨g, k * 4 + 3, none⟩ = some (.bool r.acc) := by
  have hr : (l.map Rc.vals)[k]? = some r.vals := by rw [List.getElem?_map, h]; rfl
  have f := fun j u hu => S.rowCell (rcVals_len l) hr (j := j) (u := u) hu
  exact ⟨f 0 _ rfl, f 1 _ rfl, f 2 _ rfl, f 3 _ rfl⟩
theorem Sp.rcForm {l : List Rc} {F0 : List Nat} (S : Sp w0 F0 w (rcsR v l :: L)) : (v = .slice none 0 0 ∧ l = []) ∨ ∃ g cap, v = .slice (some ⟨g, 0, none⟩) l.length cap := by
  rcases S.rowForm with ⟨h1, h2⟩ | h
  · exact .inl ⟨h1, List.eq_nil_of_length_eq_zero h2⟩
  · exact .inr h
theorem Sp.rcSlice {l : List Rc} {F0 : List Nat} (S : Sp w0 F0 w (rcsR v l :: L)) : ∃ a cap, v = .slice a l.length cap := by
  rcases S.rcForm with ⟨rfl, rfl⟩ | ⟨g, cap, rfl⟩
  · exact ⟨_, _, rfl⟩
  · exact ⟨_, _, rfl⟩
set_option maxRecDepth 100000 in
set_option maxHeartbeats 2000000 in
theorem clBecomeS (st : Int) (pr : Rc → Bool) (g : Nat) (eg : ∀ args w, (callFunc g args).run Tryz.prog w = .ok (.enter g args) w) (hg : ∀ (r : Rc) (w : World), Calls Tryz.prog g #[rcAgg r] w fun e w2 => e = .returned (.bool (pr r)) ∧ Ext [] w w2)
    (hn : C.tos.length ≤ 1000) (S : Sp w0 [] w (clR p C v L)) : Calls Tryz.prog 84 #[.pointer (some ⟨p, 0, none⟩), .int .i64 st, .func (.func g) #[] #[]] w fun e w2 => e = .returned (.tuple #[]) ∧ Sp w0 [] w2 (clR p (C.become st pr) v L) := by
  have HG := Lib.hid hg
  have HV : Hid (C.become st pr = { C with tos := C.tos.map (becF st pr) }) := rfl
  rw [HV.out]
  obtain ⟨host, ⟨fl, fd⟩, tos, body, phase, at_⟩ := C
  dsimp only at *
  obtain ⟨a, cap, rfl⟩ := S.pull1.rcSlice
  have c0 := S.cell
  have HS0 := Lib.hid S
  have hnl : (tos.length : Int) ≤ 1000 := by omega
  unfold clCells at c0
  dsimp only at *
  clear hg S hn
  go_enter Tryz.func84, Tryz.ntmps84
  go_wp2_with fail
  clear c0
  go_loopw [13] (fun i wr => ∃ k : Nat, i = .int .i64 k ∧ k ≤ tos.length ∧ Sp w0 [] wr (clB p ⟨host, (fl, fd), tos, body, phase, at_⟩ (.slice a tos.length cap) :: rowR 103 4 (.slice a tos.length cap) tos.length ((becL st pr tos k).map Rc.vals).flatten :: L)) (fun i _ => tos.length - (intOf i).toNat)
  case atStart => exact ⟨0, rfl, Nat.zero_le _, by rw [show becL st pr tos 0 = tos by simp [becL]]; exact HS0.out⟩
  case round =>
    clear HS0
    obtain ⟨k, rfl, hk, S⟩ := hrel
    have HS := Lib.hid S
    clear S
    by_cases hlt : k < tos.length
    · have hlt' : (k : Int) < tos.length := by omega
      have hat := becL_at st pr tos k hlt
      have HN := Lib.hid (becL_next st pr tos k hlt)
      have HSM := Lib.hid (becL_same st pr tos k hlt)
      generalize tos[k] = r at *
      obtain ⟨ga, rfl⟩ : ∃ ga, a = some ⟨ga, 0, none⟩ := by
        rcases HS.out.pull1.rowForm with ⟨h1, h2⟩ | ⟨g2, cap2, h1⟩
        · omega
        · cases h1; exact ⟨g2, rfl⟩
      obtain ⟨k0, k1, k2, k3⟩ := HS.out.pull1.rcCells hat
      have HAT := Lib.hid hat
      clear hat
      have HSB := Lib.hid (HS.out.box #[.string ⟨r.box.1.toArray⟩, .string ⟨r.box.2.toArray⟩, .int .i64 r.state, .bool r.acc] 103)
      have HCG := Lib.hid (fun w' => HG.out r w')
      have HB1 : Hid (pr r = true → becF st pr r = { r with state := st }) := fun h => by unfold becF; rw [if_pos h]
      have HROW := Lib.hid (fun (w' : World) (S' : Sp w0 [] w' (rowR 103 4 (.slice (some ⟨ga, 0, none⟩) tos.length cap) tos.length ((becL st pr tos k).map Rc.vals).flatten :: clB p ⟨host, (fl, fd), tos, body, phase, at_⟩ (.slice (some ⟨ga, 0, none⟩) tos.length cap) :: L)) => S'.rowSet (rcVals_len _) (i := k) (r := r.vals) (by rw [List.getElem?_map, HAT.out]; rfl) (j := 2) (by decide) (.int .i64 st))
      have HUPD : Hid (((becL st pr tos k).map Rc.vals).set k (r.vals.set 2 (.int .i64 st)) = ((becL st pr tos k).set k { r with state := st }).map Rc.vals) := by
        unfold Hid
        rw [List.map_set]
        rfl
      rw [HUPD.out] at HROW
      generalize pr r = b at *
      have HRA : Hid (rcAgg r = .agg #[.string ⟨r.box.1.toArray⟩, .string ⟨r.box.2.toArray⟩, .int .i64 r.state, .bool r.acc]) := rfl
      rw [HRA.out] at HCG
      generalize becF st pr r = r2 at *
      obtain ⟨⟨rl, rd⟩, rst, rac⟩ := r
      dsimp only at *
      clear HRA HUPD
      cases b with
      | true =>
        have HB2 := Lib.hid (HB1.out rfl)
        rw [HB2.out] at HN
        clear HB1 HSM HB2
        go_wp2_with fail
        go_at_fn g
        refine (HCG.out _).mono ?_
        generalize wr.heap.size = b2 at *
        rintro e w2 ⟨rfl, hx⟩
        have S2 := HSB.out.ext0 hx
        have c2 := S2.pull1.cell
        have f2 := S2.pull2.rowFree (k * 4 + 2)
        have kk := (S2.pull2.rcCells HAT.out).2.2.1
        have HS3 := Lib.hid (HROW.out _ ((Sp.pick [_, _, _] [2, 1] (by decide) (S2))))
        unfold clCells at c2
        dsimp only at c2 kk
        clear hx S2 HSB k0 k1 k2 k3
        go_wp2
        go_roundw
        case rel => exact ⟨k + 1, by go_num, by omega, by rw [HN.out]; exact HS3.out.pull1⟩
        case measure => simp [intOf]; omega
      | false =>
        have HS2 := Lib.hid (HSM.out rfl)
        clear HB1 HSM HN
        go_wp2_with fail
        go_at_fn g
        refine (HCG.out _).mono ?_
        generalize wr.heap.size = b2 at *
        rintro e w2 ⟨rfl, hx⟩
        have HS3 := Lib.hid (HSB.out.ext0 hx).drop
        clear hx HSB k0 k1 k2 k3
        go_wp2
        go_roundw
        case rel => exact ⟨k + 1, by go_num, by omega, by rw [HS2.out]; exact HS3.out⟩
        case measure => simp [intOf]; omega
    · obtain rfl : k = tos.length := by omega
      have HA := Lib.hid (becL_all st pr tos)
      rw [HA.out] at HS
      go_wp2
      go_end0
      refine ⟨rfl, ?_⟩
      have := HS.out
      unfold clR rcsR
      dsimp only
      rw [List.length_map]
      exact this
/-- What a method hands back: a text, and the client with its recipients. -/
def OutR2 (w0 : World) (L : List Res) (p : Nat) (v : Value) (q : Cl × Bs) (e : Ending) (w2 : World) : Prop := e = .returned (.string ⟨q.2.toArray⟩) ∧ Sp w0 [] w2 (clR p q.1 v L)
set_option maxRecDepth 100000 in
theorem clFailS (cls : Int) (pr : Rc → Bool) (g : Nat) (eg : ∀ args w, (callFunc g args).run Tryz.prog w = .ok (.enter g args) w) (hg : ∀ (r : Rc) (w : World), Calls Tryz.prog g #[rcAgg r] w fun e w2 => e = .returned (.bool (pr r)) ∧ Ext [] w w2)
    (hn : C.tos.length ≤ 1000) (S : Sp w0 [] w (clR p C v L)) (E : Env w0) : Calls Tryz.prog 80 #[.pointer (some ⟨p, 0, none⟩), .int .i64 cls, .func (.func g) #[] #[]] w (OutR2 w0 L p v (C.fail cls pr)) := by
  by_cases h5 : cls = 5
  · subst h5
    have HB := Lib.hid (clBecomeS 2 pr g eg hg hn S)
    have HE := Lib.hid E
    have HV : Hid (C.fail 5 pr = (C.become 2 pr).leave) := rfl
    have HL := Lib.hid (fun (w' : World) (S' : Sp w0 [] w' (clR p (C.become 2 pr) v L)) => clLeaveS (L := rcsR v (C.become 2 pr).tos :: L) S' E)
    rw [HV.out]
    clear S E hg eg
    go_enter Tryz.func80, Tryz.ntmps80
    go_wp2_with fail
    refine HB.out.mono ?_
    rintro e w2 ⟨rfl, S⟩
    have HS := Lib.hid S
    clear S
    go_wp2_with fail
    refine (HL.out _ HS.out).mono ?_
    rintro e w3 ⟨rfl, S⟩
    have HS3 := Lib.hid S
    clear S
    go_wp2
    go_ret
    exact ⟨rfl, HS3.out⟩
  · have h5' : (cls == 5) = false := by simpa using h5
    have HV : Hid (C.fail cls pr = C.leave) := by unfold Hid Cl.fail; rw [if_neg h5]
    have HL := Lib.hid (clLeaveS (L := rcsR v C.tos :: L) S E)
    rw [HV.out]
    clear S E hg eg h5
    go_enter Tryz.func80, Tryz.ntmps80
    go_wp2_with fail
    refine HL.out.mono ?_
    rintro e w3 ⟨rfl, S⟩
    have HS3 := Lib.hid S
    clear S
    go_wp2
    go_ret
    exact ⟨rfl, HS3.out⟩
instance : Inhabited Rc := ⟨⟨([], []), 0, false⟩⟩
theorem anyTakenS (l : List Rc) (h0 : l ≠ []) (hn : l.length ≤ 1000) {F0 : List Nat} (S : Sp w0 F0 w (rcsR v l :: L)) : Calls Tryz.prog 130 #[v, .func (.func 81) #[] #[]] w fun e w2 => e = .returned (.bool (l.any Rc.taken)) ∧ Sp w0 F0 w2 (rcsR v l :: L) := by
  have eg : ∀ args w, (callFunc 81 args).run Tryz.prog w = .ok (.enter 81 args) w := enters_of Tryz.func81 (by kernel_rfl) rfl
  rcases S.rcForm with ⟨rfl, rfl⟩ | ⟨g, cap, rfl⟩
  · exact absurd rfl h0
  · have hp : PredBelow Tryz.prog 81 #[] (fun x : Rc => .agg x.vals.toArray) Rc.taken w := fun W x hb => (rcTaken_any x W).mono fun _ _ ⟨he, hx⟩ => ⟨he, hb.trans ((hx.below (Nat.le_refl _) (by simp)).mono hb.size)⟩
    refine (AnyQ.slices_ContainsFunc Tryz.conR 4 (fun w => by kernel_rfl) (fun w => by kernel_rfl) Rc.vals (fun _ => rfl) Rc.taken _ #[] eg g 0 l.length cap l w hp (Nat.le_refl _) (by omega) S.rowLt (fun j hj i u hu => ?_)).mono ?_
    · have hr : (l.map Rc.vals)[j]? = some (l[j]!).vals := by rw [List.getElem?_map, List.getElem?_eq_getElem hj, getElem!_pos l j hj]; rfl
      rw [Nat.zero_add]
      exact S.rowCell (rcVals_len l) hr hu
    · rintro e w2 ⟨rfl, hb⟩
      refine ⟨?_, S.ext0 (Ext.of_below hb)⟩
      rw [List.take_length]
set_option maxRecDepth 100000 in
set_option maxHeartbeats 2000000 in
theorem clNameS (h0 : C.tos ≠ []) (hb : ∀ r ∈ C.tos, r.box.1.length ≤ 2048 ∧ r.box.2.length ≤ 2048) (hn : C.tos.length ≤ 1000) (ha : C.at_ ≤ 100000) (S : Sp w0 [] w (clR p C v L)) (E : Env w0) : Calls Tryz.prog 102 #[.pointer (some ⟨p, 0, none⟩)] w (OutR2 w0 L p v C.name) := by
  have HS := Lib.hid S
  have HE := Lib.hid E
  have c0 := S.cell
  obtain ⟨a, cap, rfl⟩ := S.pull1.rcSlice
  unfold clCells at c0
  have hn' : (C.tos.length : Int) ≤ 1000 := by omega
  by_cases hlt : C.at_ < C.tos.length
  · have hlt' : (C.at_ : Int) < C.tos.length := by omega
    have hat : C.tos[C.at_]? = some C.tos[C.at_] := List.getElem?_eq_getElem hlt
    obtain ⟨h1, h2⟩ := hb _ (List.getElem_mem hlt)
    have HV : Hid (C.name = C.send ⟨4, [], C.tos[C.at_].box, 0, false⟩ 4) := by unfold Hid Cl.name; rw [hat]
    have HSD := Lib.hid (fun (w' : World) (S' : Sp w0 [] w' (clR p C (.slice a C.tos.length cap) L)) => clSendS (L := rcsR (.slice a C.tos.length cap) C.tos :: L) ⟨4, [], C.tos[C.at_].box, 0, false⟩ 4 S' E ⟨by simp, h1, h2, (show (-9223372036854775808 : Int) ≤ 0 by decide), (show (0 : Int) ≤ 9223372036854775807 by decide)⟩)
    obtain ⟨ga, rfl⟩ : ∃ ga, a = some ⟨ga, 0, none⟩ := by
      rcases HS.out.pull1.rowForm with ⟨h1, h2⟩ | ⟨g2, cap2, h1⟩
      · omega
      · cases h1; exact ⟨g2, rfl⟩
    have k := S.pull1.rcCells hat
    obtain ⟨k0, k1, _, _⟩ := k
    rw [HV.out]
    generalize C.tos[C.at_] = r at *
    obtain ⟨⟨rl, rd⟩, rst, rac⟩ := r
    unfold cmAgg at HSD
    dsimp only at *
    have HQ : Hid ((C.send ⟨4, [], (rl, rd), 0, false⟩ 4).1.tos = C.tos ∧ (C.send ⟨4, [], (rl, rd), 0, false⟩ 4).1.at_ = C.at_) := ⟨rfl, rfl⟩
    generalize C.send ⟨4, [], (rl, rd), 0, false⟩ 4 = q at *
    have HAT := Lib.hid hat
    clear hb S E h1 h2 hat HV hlt
    go_enter Tryz.func102, Tryz.ntmps102
    go_wp2_with fail
    go_region
    go_wp2_with fail
    refine wp_region_chainG [0, 1, 2, 3, 4, 5, 6, 7, 8, 9, 10, 11, 12, 13, 14] (fun c => c == 13) (fun c => false) (T := fun wx => wx.cell? ⟨p, 3, none⟩ = some (.slice (some ⟨ga, 0, none⟩) C.tos.length cap) ∧ wx.cell? ⟨p, 6, none⟩ = some (.int .i64 C.at_) ∧ wx.cell? ⟨ga, C.at_ * 4, none⟩ = some (.string ⟨rl.toArray⟩) ∧ wx.cell? ⟨ga, C.at_ * 4 + 1, none⟩ = some (.string ⟨rd.toArray⟩)) (S := fun wx => Sp w0 [] wx (clR p C (.slice (some ⟨ga, 0, none⟩) C.tos.length cap) L)) (by kernel_rfl) (by kernel_rfl) (by kernel_rfl) HS.out.drew.drew (fun x h => ⟨h.cell 3, h.cell 6, (h.pull1.rcCells HAT.out).1, (h.pull1.rcCells HAT.out).2.1⟩) ?_
    repeat
      refine Exists.intro _ (And.intro rfl (Or.inl (Exists.intro ?_ (And.intro (fun wS hS K hK => ?_) (And.intro ?_ ?_)))))
      rotate_left 1
      · obtain ⟨t0, t1, t2, t3⟩ := hS
        first
          | (refine if_unwanted rfl ?_; simp only [Act.put, List.setIfInBounds_toArray, List.set_cons_zero, List.set_cons_succ]; exact hK.out)
          | (refine if_wanted rfl ?_; go_simp; exact hK.out)
      · rfl
    refine ChainG.one rfl rfl rfl (fun wS hS R hR => ?_)
    go_simp
    go_at_call 129
    refine (HSD.out wS hS).mono ?_
    rintro e w7 ⟨rfl, S7⟩
    refine hR.out _ _ rfl (fun wx => wx.cell? ⟨p, 3, none⟩ = some (.slice (some ⟨ga, 0, none⟩) C.tos.length cap) ∧ wx.cell? ⟨p, 6, none⟩ = some (.int .i64 C.at_) ∧ wx.cell? ⟨ga, C.at_ * 4, none⟩ = some (.string ⟨rl.toArray⟩) ∧ wx.cell? ⟨ga, C.at_ * 4 + 1, none⟩ = some (.string ⟨rd.toArray⟩)) (fun wx => Sp w0 [] wx (clR p q.1 (.slice (some ⟨ga, 0, none⟩) C.tos.length cap) L)) ?_ ?_ (fun _ h => h) ?_
    · unfold clR
      rw [HQ.out.1]
      exact S7
    · intro x h
      unfold clR at h
      rw [HQ.out.1] at h
      exact ⟨h.cell 3, by rw [h.cell 6]; unfold clCells; rw [HQ.out.2]; rfl, (h.pull1.rcCells HAT.out).1, (h.pull1.rcCells HAT.out).2.1⟩
    clear hR hS S7
    repeat
      refine Exists.intro _ (And.intro rfl (Or.inl (Exists.intro ?_ (And.intro (fun wS hS K hK => ?_) (And.intro ?_ ?_)))))
      rotate_left 1
      · obtain ⟨t0, t1, t2, t3⟩ := hS
        first
          | (refine if_unwanted rfl ?_; simp only [Act.put, List.setIfInBounds_toArray, List.set_cons_zero, List.set_cons_succ]; exact hK.out)
          | (refine if_wanted rfl ?_; go_simp; exact hK.out)
      · rfl
    intro wE hE
    have HSE := Lib.hid hE
    clear hE
    go_wp2
    go_ret
    exact ⟨rfl, HSE.out⟩
  · have hlt' : (C.tos.length : Int) ≤ C.at_ := by omega
    have hnone : C.tos[C.at_]? = none := List.getElem?_eq_none (by omega)
    have HV : Hid (C.name = if C.tos.any Rc.taken then C.send ⟨5, [], ([], []), 0, false⟩ 5 else C.leave) := by unfold Hid Cl.name; rw [hnone]
    have HANY := Lib.hid (fun (w' : World) (S' : Sp w0 [] w' (clR p C (.slice a C.tos.length cap) L)) => anyTakenS C.tos h0 hn S'.pull1)
    have HSD := Lib.hid (fun (w' : World) (S' : Sp w0 [] w' (clR p C (.slice a C.tos.length cap) L)) => clSendS (L := rcsR (.slice a C.tos.length cap) C.tos :: L) ⟨5, [], ([], []), 0, false⟩ 5 S' E ⟨by simp, by simp, by simp, by decide, by decide⟩)
    have HLV := Lib.hid (fun (w' : World) (S' : Sp w0 [] w' (clR p C (.slice a C.tos.length cap) L)) => clLeaveS (L := rcsR (.slice a C.tos.length cap) C.tos :: L) S' E)
    unfold cmAgg at HSD
    dsimp only at *
    clear hb S E hnone hlt
    go_enter Tryz.func102, Tryz.ntmps102
    go_wp2_with fail
    go_region
    go_wp2_with fail
    refine (HANY.out _ HS.out.drew).mono ?_
    cases hany : C.tos.any Rc.taken with
    | true =>
      rw [hany, if_pos rfl] at HV
      have HQ : Hid ((C.send ⟨5, [], ([], []), 0, false⟩ 5).1.tos = C.tos) := rfl
      generalize C.send ⟨5, [], ([], []), 0, false⟩ 5 = q at *
      clear hany
      rintro e w3 ⟨rfl, S⟩
      have HS3 := Lib.hid S.pull1
      clear S c0 HANY HLV
      go_wp2_with fail
      refine (HSD.out _ HS3.out).mono ?_
      rintro e w4 ⟨rfl, S⟩
      have HS4 := Lib.hid S
      go_wp2
      go_ret
      rw [HV.out]
      refine ⟨rfl, ?_⟩
      unfold clR
      rw [HQ.out]
      exact HS4.out
    | false =>
      rw [hany, if_neg (by decide)] at HV
      have HQ : Hid (C.leave.1.tos = C.tos) := rfl
      generalize C.leave = q at *
      clear hany
      rintro e w3 ⟨rfl, S⟩
      have HS3 := Lib.hid S.pull1
      clear S c0 HANY HSD
      go_wp2_with fail
      refine (HLV.out _ HS3.out).mono ?_
      rintro e w4 ⟨rfl, S⟩
      have HS4 := Lib.hid S
      go_wp2
      go_ret
      rw [HV.out]
      refine ⟨rfl, ?_⟩
      unfold clR
      rw [HQ.out]
      exact HS4.out
end
end Go.Proofs.YtapenolbbofjkaaGreatDoor

/-! ClU -/
namespace Go.Proofs.YtapenolbbofjkaaGreatDoor
open Go.RowKit

section
variable {w0 w : World} {L : List Res} {F0 : List Nat} {p : Nat} {v : Value} {C : Cl}
set_option maxRecDepth 100000 in
theorem clPhase_any (S : Sp w0 F0 w (clB p C v :: L)) : Calls Tryz.prog 56 #[.pointer (some ⟨p, 0, none⟩)] w fun e w2 => e = .returned (.int .i64 C.phase) ∧ w = w2 := by
  have c0 := S.cell
  unfold clCells at c0
  clear S
  go_enter Tryz.func56, Tryz.ntmps56
  go_wp2
  go_ret
  exact ⟨rfl, rfl⟩
set_option maxRecDepth 100000 in
theorem clOver_any (S : Sp w0 F0 w (clB p C v :: L)) : Calls Tryz.prog 58 #[.pointer (some ⟨p, 0, none⟩)] w fun e w2 => e = .returned (.bool (C.phase == 8)) ∧ w = w2 := by
  have c0 := S.cell
  unfold clCells at c0
  clear S
  go_enter Tryz.func58, Tryz.ntmps58
  go_wp2
  go_ret
  exact ⟨rfl, rfl⟩
set_option maxRecDepth 100000 in
theorem clLoseS (S : Sp w0 F0 w (clB p C v :: L)) : Calls Tryz.prog 57 #[.pointer (some ⟨p, 0, none⟩)] w fun e w2 => e = .returned (.tuple #[]) ∧ Sp w0 F0 w2 (clB p { C with phase := 8 } v :: L) := by
  have c0 := S.cell
  have f0 := S.free
  have HS := Lib.hid (S.set (o := 5) (.int .i64 8))
  unfold clCells at c0
  clear S
  go_enter Tryz.func57, Tryz.ntmps57
  go_wp2
  go_end0
  exact ⟨rfl, HS.out⟩
set_option maxRecDepth 100000 in
set_option maxHeartbeats 2000000 in
theorem clOpeningS (cls : Int) (K : C.Ok) (S : Sp w0 [] w (clR p C v L)) (E : Env w0) : Calls Tryz.prog 85 #[.pointer (some ⟨p, 0, none⟩), .int .i64 cls] w (OutR2 w0 L p v (C.opening cls)) := by
  have HK := Lib.hid K
  have eg := enters_of Tryz.func104 (by kernel_rfl) rfl
  have HG := Lib.hid (fun (verb ph : Int) => clGreetS (C := C) (L := rcsR v C.tos :: L) verb ph (by have := K.host; omega) S E)
  have HM := Lib.hid (fun (z : Int) (h1 : -9223372036854775808 ≤ z) (h2 : z ≤ 9223372036854775807) => clMailS (C := C) (L := rcsR v C.tos :: L) z h1 h2 (by have := K.fl; omega) (by have := K.fd; omega) S E)
  have HL := Lib.hid (clLeaveS (C := C) (L := rcsR v C.tos :: L) S E)
  have HN := Lib.hid (clNameS (C := C) (fun e => by have := K.n1; rw [e] at this; simp at this) (fun r hr => by have := K.bx r hr; omega) (by have := K.n10; omega) (by have := K.atn; have := K.n10; omega) S E)
  have HF := Lib.hid (clFailS (C := C) cls Rc.waits 104 eg (fun r w => rcWaits_any r w) (by have := K.n10; omega) S E)
  have HS := Lib.hid S
  have c0 := S.cell
  have HBL : Hid ((C.body.length : Int) ≤ 4096) := by have := K.body; unfold Hid; omega
  have HO : Hid (C.opening cls = if C.phase = 0 ∧ cls = 2 then C.greet 2 1 else if C.phase = 1 ∧ cls = 2 then C.mail C.body.length else if C.phase = 1 ∧ cls = 5 then C.greet 1 2 else if C.phase = 1 then C.leave else if C.phase = 2 ∧ cls = 2 then C.mail (-1) else if C.phase = 3 ∧ cls = 2 then C.name else C.fail cls Rc.waits) := rfl
  have HQG : Hid (∀ verb ph, (C.greet verb ph).1.tos = C.tos) := fun _ _ => rfl
  have HQM : Hid (∀ z, (C.mail z).1.tos = C.tos) := fun _ => rfl
  have HQL : Hid (C.leave.1.tos = C.tos) := rfl
  unfold clCells at c0
  clear S E K eg
  by_cases h2 : cls = 2
  · have b2 : (cls == 2) = true := by simpa using h2
    have b5 : (cls == 5) = false := by rw [h2]; rfl
    by_cases p0 : C.phase = 0
    · have q0 : (C.phase == 0) = true := by simpa using p0
      have HV : Hid (C.opening cls = C.greet 2 1) := by unfold Hid; rw [HO.out, if_pos (by omega)]
      clear HO p0 h2
      go_enter Tryz.func85, Tryz.ntmps85
      go_wp2_with fail
      refine (HG.out 2 1).mono ?_
      rintro e w2 ⟨rfl, S⟩
      have HS2 := Lib.hid S
      clear S
      go_wp2
      go_ret
      rw [HV.out]
      refine ⟨rfl, ?_⟩
      unfold clR
      rw [HQG.out 2 1]
      exact HS2.out
    have q0 : (C.phase == 0) = false := by simpa using p0
    by_cases p1 : C.phase = 1
    · have q1 : (C.phase == 1) = true := by simpa using p1
      have HV : Hid (C.opening cls = C.mail C.body.length) := by unfold Hid; rw [HO.out, if_neg (by omega), if_pos (by omega)]
      clear HO p0 p1 h2
      go_enter Tryz.func85, Tryz.ntmps85
      go_wp2_with fail
      refine (HM.out C.body.length (by have := HBL.out; omega) (by have := HBL.out; omega)).mono ?_
      rintro e w2 ⟨rfl, S⟩
      have HS2 := Lib.hid S
      clear S
      go_wp2
      go_ret
      rw [HV.out]
      refine ⟨rfl, ?_⟩
      unfold clR
      rw [HQM.out C.body.length]
      exact HS2.out
    have q1 : (C.phase == 1) = false := by simpa using p1
    by_cases p2 : C.phase = 2
    · have q2 : (C.phase == 2) = true := by simpa using p2
      have HV : Hid (C.opening cls = C.mail (-1)) := by unfold Hid; rw [HO.out, if_neg (by omega), if_neg (by omega), if_neg (by omega), if_neg (by omega), if_pos (by omega)]
      clear HO p0 p1 p2 h2
      go_enter Tryz.func85, Tryz.ntmps85
      go_wp2_with fail
      refine (HM.out (-1) (by decide) (by decide)).mono ?_
      rintro e w2 ⟨rfl, S⟩
      have HS2 := Lib.hid S
      clear S
      go_wp2
      go_ret
      rw [HV.out]
      refine ⟨rfl, ?_⟩
      unfold clR
      rw [HQM.out (-1)]
      exact HS2.out
    have q2 : (C.phase == 2) = false := by simpa using p2
    by_cases p3 : C.phase = 3
    · have q3 : (C.phase == 3) = true := by simpa using p3
      have HV : Hid (C.opening cls = C.name) := by unfold Hid; rw [HO.out, if_neg (by omega), if_neg (by omega), if_neg (by omega), if_neg (by omega), if_neg (by omega), if_pos (by omega)]
      clear HO p0 p1 p2 p3 h2
      go_enter Tryz.func85, Tryz.ntmps85
      go_wp2_with fail
      refine (HN.out).mono ?_
      rintro e w2 ⟨rfl, S⟩
      have HS2 := Lib.hid S
      clear S
      go_wp2
      go_ret
      rw [HV.out]
      exact ⟨rfl, HS2.out⟩
    have q3 : (C.phase == 3) = false := by simpa using p3
    have HV : Hid (C.opening cls = C.fail cls Rc.waits) := by unfold Hid; rw [HO.out, if_neg (by omega), if_neg (by omega), if_neg (by omega), if_neg (by omega), if_neg (by omega), if_neg (by omega)]
    clear HO p0 p1 p2 p3 h2
    go_enter Tryz.func85, Tryz.ntmps85
    go_wp2_with fail
    refine (HF.out).mono ?_
    rintro e w2 ⟨rfl, S⟩
    have HS2 := Lib.hid S
    clear S
    go_wp2
    go_ret
    rw [HV.out]
    exact ⟨rfl, HS2.out⟩
  · have b2 : (cls == 2) = false := by simpa using h2
    by_cases p1 : C.phase = 1
    · have q1 : (C.phase == 1) = true := by simpa using p1
      have q0 : (C.phase == 0) = false := by rw [p1]; rfl
      by_cases h5 : cls = 5
      · have b5 : (cls == 5) = true := by simpa using h5
        have HV : Hid (C.opening cls = C.greet 1 2) := by unfold Hid; rw [HO.out, if_neg (by omega), if_neg (by omega), if_pos (by omega)]
        clear HO p1 h2 h5
        go_enter Tryz.func85, Tryz.ntmps85
        go_wp2_with fail
        refine (HG.out 1 2).mono ?_
        rintro e w2 ⟨rfl, S⟩
        have HS2 := Lib.hid S
        clear S
        go_wp2
        go_ret
        rw [HV.out]
        refine ⟨rfl, ?_⟩
        unfold clR
        rw [HQG.out 1 2]
        exact HS2.out
      · have b5 : (cls == 5) = false := by simpa using h5
        have HV : Hid (C.opening cls = C.leave) := by unfold Hid; rw [HO.out, if_neg (by omega), if_neg (by omega), if_neg (by omega), if_pos (by omega)]
        clear HO p1 h2 h5
        go_enter Tryz.func85, Tryz.ntmps85
        go_wp2_with fail
        refine (HL.out).mono ?_
        rintro e w2 ⟨rfl, S⟩
        have HS2 := Lib.hid S
        clear S
        go_wp2
        go_ret
        rw [HV.out]
        refine ⟨rfl, ?_⟩
        unfold clR
        rw [HQL.out]
        exact HS2.out
    have q1 : (C.phase == 1) = false := by simpa using p1
    have HV0 : Hid (C.opening cls = C.fail cls Rc.waits) := by unfold Hid; rw [HO.out, if_neg (by omega), if_neg (by omega), if_neg (by omega), if_neg (by omega), if_neg (by omega), if_neg (by omega)]
    have hor : (C.phase == 0) = true ∧ (C.phase == 2) = false ∧ (C.phase == 3) = false ∨ (C.phase == 0) = false ∧ (C.phase == 2) = true ∧ (C.phase == 3) = false ∨ (C.phase == 0) = false ∧ (C.phase == 2) = false ∧ (C.phase == 3) = true ∨ (C.phase == 0) = false ∧ (C.phase == 2) = false ∧ (C.phase == 3) = false := by
      by_cases p0 : C.phase = 0
      · rw [p0]; exact .inl ⟨rfl, rfl, rfl⟩
      by_cases p2 : C.phase = 2
      · rw [p2]; exact .inr (.inl ⟨rfl, rfl, rfl⟩)
      by_cases p3 : C.phase = 3
      · rw [p3]; exact .inr (.inr (.inl ⟨rfl, rfl, rfl⟩))
      exact .inr (.inr (.inr ⟨by simpa using p0, by simpa using p2, by simpa using p3⟩))
    clear HO p1 h2
    rcases hor with ⟨q0, q2, q3⟩ | ⟨q0, q2, q3⟩ | ⟨q0, q2, q3⟩ | ⟨q0, q2, q3⟩
    all_goals
      go_enter Tryz.func85, Tryz.ntmps85
      go_wp2_with fail
      refine (HF.out).mono ?_
      rintro e w2 ⟨rfl, S⟩
      have HS2 := Lib.hid S
      clear S
      go_wp2
      go_ret
      rw [HV0.out]
      exact ⟨rfl, HS2.out⟩
theorem modify_set {l : List Rc} {k : Nat} {r : Rc} (h : l[k]? = some r) (f : Rc → Rc) : l.modify k f = l.set k (f r) := by
  obtain ⟨h1, rfl⟩ := List.getElem?_eq_some_iff.1 h
  apply List.ext_getElem?
  intro i
  rw [List.getElem?_modify, List.getElem?_set]
  by_cases e : k = i
  · subst e
    rw [if_pos rfl, if_pos h1, h]
    simp
  · rw [if_neg e]
    cases l[i]? with
    | none => rfl
    | some x => simp [e]
set_option maxRecDepth 100000 in
set_option maxHeartbeats 2000000 in
theorem clNamedS (cls : Int) (K : C.Ok) (hp : C.phase = 4) (S : Sp w0 [] w (clR p C v L)) (E : Env w0) : Calls Tryz.prog 79 #[.pointer (some ⟨p, 0, none⟩), .int .i64 cls] w (OutR2 w0 L p v (C.named cls)) := by
  have hlt := K.at4 hp
  have hat : C.tos[C.at_]? = some C.tos[C.at_] := List.getElem?_eq_getElem hlt
  have HMD := Lib.hid (modify_set hat (·.told cls))
  have HD : Hid (C.named cls = ({ C with tos := C.tos.modify C.at_ (·.told cls), at_ := C.at_ + 1 } : Cl).name) := rfl
  rw [HMD.out] at HD
  have HBX : Hid (∀ r ∈ C.tos.set C.at_ (C.tos[C.at_].told cls), r.box.1.length ≤ 2048 ∧ r.box.2.length ≤ 2048) := fun r hr => by
    rcases List.mem_or_eq_of_mem_set hr with h | rfl
    · have := K.bx r h; omega
    · rw [told_box]
      have := K.bx _ (List.getElem_mem hlt); omega
  have HN := Lib.hid (fun (w' : World) (S' : Sp w0 [] w' (clR p ({ C with tos := C.tos.set C.at_ (C.tos[C.at_].told cls), at_ := C.at_ + 1 } : Cl) v L)) => clNameS (C := ({ C with tos := C.tos.set C.at_ (C.tos[C.at_].told cls), at_ := C.at_ + 1 } : Cl)) (v := v) (L := L) (p := p) (fun e => by
    have h := congrArg List.length e
    simp at h
    have := K.n1
    rw [h] at this
    simp at this) HBX.out (by have := K.n10; simp; omega) (by have := K.atn; have := K.n10; show C.at_ + 1 ≤ _; omega) S' E)
  have HS := Lib.hid S
  have c0 := S.cell
  obtain ⟨a, cap, rfl⟩ := S.pull1.rcSlice
  obtain ⟨ga, rfl⟩ : ∃ ga, a = some ⟨ga, 0, none⟩ := by
    rcases HS.out.pull1.rowForm with ⟨h1, h2⟩ | ⟨g2, cap2, h1⟩
    · omega
    · cases h1; exact ⟨g2, rfl⟩
  have hlt' : (C.at_ : Int) < C.tos.length := by omega
  have han : (C.at_ : Int) ≤ 100 := by have := K.atn; have := K.n10; omega
  have hnn : (C.tos.length : Int) ≤ 100 := by have := K.n10; omega
  have HAT := Lib.hid hat
  have HT : Hid (C.tos[C.at_].told cls = if cls = 2 then { C.tos[C.at_] with acc := true } else if cls = 5 then { C.tos[C.at_] with state := 2 } else C.tos[C.at_]) := rfl
  generalize C.tos[C.at_] = r at *
  have HROW := Lib.hid (fun (w' : World) (S' : Sp w0 [] w' (rcsR (.slice (some ⟨ga, 0, none⟩) C.tos.length cap) C.tos :: clB p C (.slice (some ⟨ga, 0, none⟩) C.tos.length cap) :: L)) (j : Nat) (hj : j < 4) (u : Value) => S'.rowSet (rcVals_len _) (i := C.at_) (r := r.vals) (by rw [List.getElem?_map, HAT.out]; rfl) (j := j) hj u)
  have HUP : Hid (∀ (j : Nat) (u : Value) (r2 : Rc), r.vals.set j u = r2.vals → (C.tos.map Rc.vals).set C.at_ (r.vals.set j u) = (C.tos.set C.at_ r2).map Rc.vals) := fun j u r2 h => by rw [h, List.map_set]
  have HSAME : Hid (C.tos.set C.at_ r = C.tos) := by
    unfold Hid
    apply List.ext_getElem?
    intro i
    rw [List.getElem?_set]
    by_cases e : C.at_ = i
    · subst e; rw [if_pos rfl, if_pos hlt, HAT.out]
    · rw [if_neg e]
  have HAT4 : Hid (((C.at_ : Int) + 1) = ((C.at_ + 1 : Nat) : Int)) := by unfold Hid; omega
  clear S E K hat hlt hp
  unfold clCells at c0
  rw [HD.out]
  generalize hq : Cl.name _ = q
  rw [hq] at HN
  clear hq HD HMD
  obtain ⟨host, ⟨fl, fd⟩, tos, body, phase, at_⟩ := C
  dsimp only at *
  by_cases h2 : cls = 2
  · have b2 : (cls == 2) = true := by simpa using h2
    rw [HT.out, if_pos h2] at HN
    have HU := Lib.hid (HUP.out 3 (.bool true) { r with acc := true } rfl)
    have S3 := HROW.out _ HS.out.pull1 3 (by decide) (.bool true)
    rw [HU.out] at S3
    obtain ⟨k0, k1, k2, k3⟩ := HS.out.pull1.rcCells HAT.out
    have hr0 := HS.out.pull1.rowFree (at_ * 4 + 3)
    have c3 := S3.pull1.cell
    have f3 := S3.pull1.free
    have S4 := (S3.pull1.set (o := 6) (.int .i64 ((at_ + 1 : Nat) : Int))).drew
    have HS4 := Lib.hid S4
    have l3 := S3.pull1.boxlt
    unfold clCells at c3
    dsimp only at c3
    clear S3 S4 HROW HUP HU h2 HSAME HT HBX
    go_enter Tryz.func79, Tryz.ntmps79
    go_wp2_with fail
    go_region
    go_wp2_with fail
    rw [HAT4.out]
    refine (HN.out _ ?_).mono ?_
    · have := HS4.out
      unfold clR clB clCells rcsR at *
      dsimp only at *
      rw [List.length_set]
      exact this
    rintro e w2 ⟨rfl, S⟩
    have HS5 := Lib.hid S
    clear S
    go_wp2
    go_ret
    exact ⟨rfl, HS5.out⟩
  have b2 : (cls == 2) = false := by simpa using h2
  by_cases h5 : cls = 5
  · have b5 : (cls == 5) = true := by simpa using h5
    rw [HT.out, if_neg h2, if_pos h5] at HN
    have HU := Lib.hid (HUP.out 2 (.int .i64 2) { r with state := 2 } rfl)
    have S3 := HROW.out _ HS.out.pull1 2 (by decide) (.int .i64 2)
    rw [HU.out] at S3
    obtain ⟨k0, k1, k2, k3⟩ := HS.out.pull1.rcCells HAT.out
    have hr0 := HS.out.pull1.rowFree (at_ * 4 + 2)
    have c3 := S3.pull1.cell
    have f3 := S3.pull1.free
    have S4 := (S3.pull1.set (o := 6) (.int .i64 ((at_ + 1 : Nat) : Int))).drew
    have HS4 := Lib.hid S4
    have l3 := S3.pull1.boxlt
    unfold clCells at c3
    dsimp only at c3
    clear S3 S4 HROW HUP HU h2 h5 HSAME HT HBX
    go_enter Tryz.func79, Tryz.ntmps79
    go_wp2_with fail
    go_region
    go_wp2_with fail
    rw [HAT4.out]
    refine (HN.out _ ?_).mono ?_
    · have := HS4.out
      unfold clR clB clCells rcsR at *
      dsimp only at *
      rw [List.length_set]
      exact this
    rintro e w2 ⟨rfl, S⟩
    have HS5 := Lib.hid S
    clear S
    go_wp2
    go_ret
    exact ⟨rfl, HS5.out⟩
  · have b5 : (cls == 5) = false := by simpa using h5
    rw [HT.out, if_neg h2, if_neg h5, HSAME.out] at HN
    have S4 := (HS.out.set (o := 6) (.int .i64 ((at_ + 1 : Nat) : Int))).drew
    have f3 := HS.out.free
    have HS4 := Lib.hid S4
    clear S4 HROW HUP h2 h5 HSAME HT HBX
    go_enter Tryz.func79, Tryz.ntmps79
    go_wp2_with fail
    go_region
    go_wp2_with fail
    rw [HAT4.out]
    refine (HN.out _ HS4.out).mono ?_
    rintro e w2 ⟨rfl, S⟩
    have HS5 := Lib.hid S
    clear S
    go_wp2
    go_ret
    exact ⟨rfl, HS5.out⟩
set_option maxRecDepth 100000 in
set_option maxHeartbeats 4000000 in
theorem clTakeS (code : Int) (hc1 : -9223372036854775808 ≤ code) (hc2 : code ≤ 9223372036854775807) (K : C.Ok) (S : Sp w0 [] w (clR p C v L)) (E : Env w0) : Calls Tryz.prog 55 #[.pointer (some ⟨p, 0, none⟩), .int .i64 code] w (OutR2 w0 L p v (C.take code)) := by
  have egT := enters_of Tryz.func81 (by kernel_rfl) rfl
  have hn10 : C.tos.length ≤ 1000 := by have := K.n10; omega
  have HB1 := Lib.hid (clBecomeS (C := C) 1 Rc.taken 81 egT (fun r w => rcTaken_any r w) hn10 S)
  have HF := Lib.hid (fun (D : Cl) (w' : World) (hd : D.tos.length ≤ 1000) (S' : Sp w0 [] w' (clR p D v L)) => clFailS (C := D) (classC code) Rc.taken 81 egT (fun r w => rcTaken_any r w) hd S' E)
  have HO := Lib.hid (clOpeningS (classC code) K S E)
  have HT : Hid (C.take code = if C.phase = 4 then C.named (classC code)
    else if C.phase = 5 then (if classC code = 3 then ({ C with phase := 6 }, lnStuff (lnSplit C.body).1) else C.fail (classC code) Rc.taken)
    else if C.phase = 6 then ((if classC code = 2 then C.become 1 Rc.taken else C).fail (classC code) Rc.taken)
    else if C.phase = 7 ∨ C.phase = 8 then ({ C with phase := 8 }, [])
    else C.opening (classC code)) := rfl
  have HCL := Lib.hid (fun w' => class_anyK code w' hc1 hc2)
  have HS := Lib.hid S
  have HLEN : Hid ((C.become 1 Rc.taken).tos.length ≤ 1000) := by unfold Hid; rw [become_len]; exact hn10
  have H10 := Lib.hid hn10
  have HBL : Hid (C.body.length ≤ 5000) := by have := K.body; unfold Hid; omega
  have HE := Lib.hid E
  by_cases p4 : C.phase = 4
  · have HN := Lib.hid (clNamedS (classC code) K p4 S E)
    have HV : Hid (C.take code = C.named (classC code)) := by unfold Hid; rw [HT.out, if_pos p4]
    have c0 := S.cell
    unfold clCells at c0
    have q4 : (C.phase == 4) = true := by simpa using p4
    clear S E K egT hn10 p4 HT HB1 HF HO
    generalize classC code = cl at *
    go_enter Tryz.func55, Tryz.ntmps55
    go_wp2_with fail
    refine (HCL.out _).mono ?_
    rintro e wq ⟨rfl, rfl⟩
    go_wp2_with fail
    refine HN.out.mono ?_
    rintro e w2 ⟨rfl, S⟩
    have HS2 := Lib.hid S
    clear S
    go_wp2
    go_ret
    rw [HV.out]
    exact ⟨rfl, HS2.out⟩
  have q4 : (C.phase == 4) = false := by simpa using p4
  by_cases p5 : C.phase = 5
  · have q5 : (C.phase == 5) = true := by simpa using p5
    have c0 := S.cell
    unfold clCells at c0
    by_cases h3 : classC code = 3
    · have HV : Hid (C.take code = ({ C with phase := 6 }, lnStuff (lnSplit C.body).1)) := by unfold Hid; rw [HT.out, if_neg p4, if_pos p5, if_pos h3]
      have b3 : (classC code != 3) = false := by rw [h3]; rfl
      have f0 := S.free
      have HS6 := Lib.hid (S.set (o := 5) (.int .i64 6))
      have c6 := HS6.out.cell
      unfold clCells at c6
      have hsf := split_facts C.body crlf
      have HSF : Hid ((lnSplit C.body).1.length ≤ 1000000 ∧ ∀ s ∈ (lnSplit C.body).1, s.length ≤ 1000000) := by
        have := HBL.out
        unfold Hid lnSplit
        refine ⟨by rw [List.length_dropLast]; omega, fun s hs => ?_⟩
        have := hsf.2.2 s ((List.dropLast_sublist _).subset hs)
        omega
      clear S E K egT hn10 p4 p5 HT HB1 HF HO h3 hsf
      generalize classC code = cl at *
      go_enter Tryz.func55, Tryz.ntmps55
      go_wp2_with fail
      refine (HCL.out _).mono ?_
      rintro e wq ⟨rfl, rfl⟩
      go_wp2_with fail
      refine (lnSplitS C.body HE.out (by have := HBL.out; omega) HS6.out).mono ?_
      rintro e w2 ⟨v2, rfl, S, T⟩
      have HS2 := Lib.hid S
      have HT2 := Lib.hid T
      clear S T c0 f0 c6 HS6
      go_wp2_with fail
      refine (lnStuffS (lnSplit C.body).1 HSF.out.1 HSF.out.2 HT2.out HS2.out).mono ?_
      rintro e w3 ⟨rfl, S⟩
      have HS3 := Lib.hid S
      clear S HS2
      go_wp2
      go_ret
      rw [HV.out]
      exact ⟨rfl, HS3.out⟩
    · have HV : Hid (C.take code = C.fail (classC code) Rc.taken) := by unfold Hid; rw [HT.out, if_neg p4, if_pos p5, if_neg h3]
      have b3 : (classC code != 3) = true := by simpa using h3
      have HF2 := Lib.hid (HF.out C w H10.out S)
      clear S E K egT hn10 p4 p5 HT HB1 HF HO h3
      generalize classC code = cl at *
      go_enter Tryz.func55, Tryz.ntmps55
      go_wp2_with fail
      refine (HCL.out _).mono ?_
      rintro e wq ⟨rfl, rfl⟩
      go_wp2_with fail
      refine HF2.out.mono ?_
      rintro e w2 ⟨rfl, S⟩
      have HS2 := Lib.hid S
      clear S
      go_wp2
      go_ret
      rw [HV.out]
      exact ⟨rfl, HS2.out⟩
  have q5 : (C.phase == 5) = false := by simpa using p5
  by_cases p6 : C.phase = 6
  · have q6 : (C.phase == 6) = true := by simpa using p6
    have c0 := S.cell
    unfold clCells at c0
    by_cases h2 : classC code = 2
    · have HV : Hid (C.take code = (C.become 1 Rc.taken).fail (classC code) Rc.taken) := by unfold Hid; rw [HT.out, if_neg p4, if_neg p5, if_pos p6, if_pos h2]
      have b2 : (classC code == 2) = true := by rw [h2]; rfl
      have HF2 := Lib.hid (fun w' S' => HF.out (C.become 1 Rc.taken) w' HLEN.out S')
      clear S E K egT hn10 p4 p5 p6 HT HF HO h2
      generalize classC code = cl at *
      generalize C.become 1 Rc.taken = D at *
      go_enter Tryz.func55, Tryz.ntmps55
      go_wp2_with fail
      refine (HCL.out _).mono ?_
      rintro e wq ⟨rfl, rfl⟩
      go_wp2_with fail
      refine HB1.out.mono ?_
      rintro e w2 ⟨rfl, S⟩
      have HS2 := Lib.hid S
      clear S c0
      go_wp2_with fail
      refine (HF2.out _ HS2.out).mono ?_
      rintro e w3 ⟨rfl, S⟩
      have HS3 := Lib.hid S
      clear S
      go_wp2
      go_ret
      rw [HV.out]
      exact ⟨rfl, HS3.out⟩
    · have HV : Hid (C.take code = C.fail (classC code) Rc.taken) := by unfold Hid; rw [HT.out, if_neg p4, if_neg p5, if_pos p6, if_neg h2]
      have b2 : (classC code == 2) = false := by simpa using h2
      have HF2 := Lib.hid (HF.out C w H10.out S)
      clear S E K egT hn10 p4 p5 p6 HT HB1 HF HO h2
      generalize classC code = cl at *
      go_enter Tryz.func55, Tryz.ntmps55
      go_wp2_with fail
      refine (HCL.out _).mono ?_
      rintro e wq ⟨rfl, rfl⟩
      go_wp2_with fail
      refine HF2.out.mono ?_
      rintro e w2 ⟨rfl, S⟩
      have HS2 := Lib.hid S
      clear S
      go_wp2
      go_ret
      rw [HV.out]
      exact ⟨rfl, HS2.out⟩
  have q6 : (C.phase == 6) = false := by simpa using p6
  by_cases p78 : C.phase = 7 ∨ C.phase = 8
  · have HV : Hid (C.take code = ({ C with phase := 8 }, [])) := by unfold Hid; rw [HT.out, if_neg p4, if_neg p5, if_neg p6, if_pos p78]
    have hor : (C.phase == 7) = true ∨ ((C.phase == 7) = false ∧ (C.phase == 8) = true) := by
      rcases p78 with h | h
      · exact .inl (by simpa using h)
      · exact .inr ⟨by rw [h]; rfl, by simpa using h⟩
    have c0 := S.cell
    have f0 := S.free
    have HS8 := Lib.hid (S.set (o := 5) (.int .i64 8))
    unfold clCells at c0
    clear S E K egT hn10 p4 p5 p6 HT HB1 HF HO p78
    generalize classC code = cl at *
    rcases hor with q7 | ⟨q7, q8⟩
    all_goals
      go_enter Tryz.func55, Tryz.ntmps55
      go_wp2_with fail
      refine (HCL.out _).mono ?_
      rintro e wq ⟨rfl, rfl⟩
      go_wp2
      go_ret
      rw [HV.out]
      exact ⟨rfl, HS8.out⟩
  · have HV : Hid (C.take code = C.opening (classC code)) := by unfold Hid; rw [HT.out, if_neg p4, if_neg p5, if_neg p6, if_neg p78]
    have q7 : (C.phase == 7) = false := by simp; omega
    have q8 : (C.phase == 8) = false := by simp; omega
    have c0 := S.cell
    unfold clCells at c0
    clear S E K egT hn10 p4 p5 p6 HT HB1 HF p78
    generalize classC code = cl at *
    go_enter Tryz.func55, Tryz.ntmps55
    go_wp2_with fail
    refine (HCL.out _).mono ?_
    rintro e wq ⟨rfl, rfl⟩
    go_wp2_with fail
    refine HO.out.mono ?_
    rintro e w2 ⟨rfl, S⟩
    have HS2 := Lib.hid S
    clear S
    go_wp2
    go_ret
    rw [HV.out]
    exact ⟨rfl, HS2.out⟩
end
end Go.Proofs.YtapenolbbofjkaaGreatDoor

/-! ClX -/
namespace Go.Proofs.YtapenolbbofjkaaGreatDoor
open Go.RowKit

/-! ### rows -/
theorem infoInt : (Tryz.prog.info? 3).map (fun i => (i.zero, i.size, i.bytes)) = some (some (.int .i64 0), 1, 8) := by kernel_rfl
theorem infoRec : (Tryz.prog.info? 103).map (fun i => (i.zero, i.size, i.bytes)) = some (some (.agg #[.string ⟨#[]⟩, .string ⟨#[]⟩, .int .i64 0, .bool false]), 4, 48) := by kernel_rfl
/-- A slice value that holds numbers, in blocks of its own. -/
abbrev intsR (v : Value) (l : List Int) : Res := rowR 3 1 v l.length (l.map fun z => .int .i64 z)
def Mb.vals (b : Mb) : List Value := [.string ⟨b.1.toArray⟩, .string ⟨b.2.toArray⟩]
/-- A slice value that holds mailboxes, only read. -/
def BxAt (w : World) (v : Value) (l : List Mb) : Prop := ∃ a cap, v = .slice a l.length cap ∧ RowsAt w a 2 (l.map Mb.vals)
theorem BxAt.ext {w w2 : World} {v : Value} {l : List Mb} (h : BxAt w v l) (hx : Ext [] w w2) : BxAt w2 v l := by
  obtain ⟨a, cap, h1, h2⟩ := h
  exact ⟨a, cap, h1, h2.ext hx⟩
theorem BxAt.form {w : World} {v : Value} {l : List Mb} (h : BxAt w v l) : ∃ a cap, v = .slice a l.length cap := by
  obtain ⟨a, cap, h1, _⟩ := h
  exact ⟨a, cap, h1⟩
theorem BxAt.at {w : World} {a : Option Addr} {n cap : Nat} {l : List Mb} (h : BxAt w (.slice a n cap) l) {i : Nat} (hi : i < l.length) : ∃ b off, a = some ⟨b, off, none⟩ ∧ w.cell? ⟨b, off + i * 2, none⟩ = some (.string ⟨l[i].1.toArray⟩) ∧ w.cell? ⟨b, off + i * 2 + 1, none⟩ = some (.string ⟨l[i].2.toArray⟩) := by
  obtain ⟨a2, cap2, h1, h2⟩ := h
  cases h1
  obtain ⟨b, off, rfl⟩ := h2.addr (i := i) (by simpa using hi)
  have hr : (l.map Mb.vals)[i]? = some (Mb.vals l[i]) := by rw [List.getElem?_map, List.getElem?_eq_getElem hi]; rfl
  exact ⟨b, off, rfl, h2.at i _ hr 0 _ rfl, h2.at i _ hr 1 _ rfl⟩
section
variable {w0 w : World} {L : List Res} {F0 : List Nat} {p b : Nat} {v : Value} {C : Cl}
theorem Sp.appendInt (ty : TypeId) {l : List Int} (x : Int) (hn : l.length < 10000000000) (S : Sp w0 F0 w (boxR b #[.int .i64 x] 3 :: intsR v l :: L)) :
    ∃ g cap w2, (Builtin.append_ #[52, 52] ty #[v, .slice (some ⟨b, 0, none⟩) 1 1]).run Tryz.prog w = .ok (.slice (some ⟨g, 0, none⟩) (l.length + 1) cap) w2 ∧ Sp w0 F0 w2 (intsR (.slice (some ⟨g, 0, none⟩) (l.length + 1) cap) (l ++ [x]) :: L) := by
  obtain ⟨g, cap, w2, h1, S2⟩ := Sp.appendOne 52 ty #[.int .i64 x] _ 8 infoInt rfl Tryz.underlying52 (by decide) (by decide) rfl (by simp [Value.oneCell']) hn S
  refine ⟨g, cap, w2, h1, ?_⟩
  have e1 : (l ++ [x]).map (fun z => (.int .i64 z : Value)) = l.map (fun z => (.int .i64 z : Value)) ++ [.int .i64 x] := by simp
  have e2 : (l ++ [x]).length = l.length + 1 := by simp
  unfold intsR
  rw [e1, e2]
  exact S2.drop
theorem Sp.appendRec (ty : TypeId) {l : List Rc} (r : Rc) (hn : l.length < 10000000000) (S : Sp w0 F0 w (boxR b r.vals.toArray 103 :: rcsR v l :: L)) :
    ∃ g cap w2, (Builtin.append_ #[99, 99] ty #[v, .slice (some ⟨b, 0, none⟩) 1 1]).run Tryz.prog w = .ok (.slice (some ⟨g, 0, none⟩) (l.length + 1) cap) w2 ∧ Sp w0 F0 w2 (rcsR (.slice (some ⟨g, 0, none⟩) (l.length + 1) cap) (l ++ [r]) :: L) := by
  obtain ⟨g, cap, w2, h1, S2⟩ := Sp.appendOne 99 ty r.vals.toArray _ 48 infoRec rfl Tryz.underlying99 (by decide) (by decide) rfl (by simp [Rc.vals, Value.oneCell']) hn S
  refine ⟨g, cap, w2, h1, ?_⟩
  have e1 : ((l ++ [r]).map Rc.vals).flatten = (l.map Rc.vals).flatten ++ r.vals := by simp
  have e2 : (l ++ [r]).length = l.length + 1 := by simp
  unfold rcsR
  rw [e1, e2]
  exact S2.drop
theorem take_snocX {α β : Type} (f : α → β) {l : List α} {k : Nat} (h : k < l.length) : (l.take (k + 1)).map f = (l.take k).map f ++ [f l[k]] := by
  rw [List.take_succ_eq_append_getElem h, List.map_append]
  rfl
set_option maxRecDepth 100000 in
set_option maxHeartbeats 1000000 in
theorem clStatesS (hn : C.tos.length ≤ 1000) (S : Sp w0 F0 w (clR p C v L)) : Calls Tryz.prog 32 #[.pointer (some ⟨p, 0, none⟩)] w fun e w2 => ∃ v2, e = .returned v2 ∧ Sp w0 F0 w2 (intsR v2 (C.tos.map Rc.state) :: clR p C v L) := by
  have c0 := S.cell
  obtain ⟨a, cap, rfl⟩ := S.pull1.rcSlice
  have HS := Lib.hid (Sp.rowNil S 3 1)
  have hn' : (C.tos.length : Int) ≤ 1000 := by omega
  unfold clCells at c0
  clear S hn
  go_enter Tryz.func32, Tryz.ntmps32
  go_wp2_with fail
  clear c0
  go_loopw [3, 11] (fun o i wr => ∃ k : Nat, i = .int .i64 k ∧ k ≤ C.tos.length ∧ Sp w0 F0 wr (intsR o ((C.tos.take k).map Rc.state) :: clR p C (.slice a C.tos.length cap) L)) (fun _ i _ => C.tos.length - (intOf i).toNat)
  case atStart => exact ⟨0, rfl, Nat.zero_le _, HS.out⟩
  case round =>
    clear HS
    obtain ⟨k, rfl, hk, S⟩ := hrel
    have HS := Lib.hid S
    clear S
    by_cases hlt : k < C.tos.length
    · have hlt' : (k : Int) < C.tos.length := by omega
      obtain ⟨ga, rfl⟩ : ∃ ga, a = some ⟨ga, 0, none⟩ := by
        rcases ((Sp.pick [_, _, _] [2] (by decide) (HS.out))).rowForm with ⟨h1, h2⟩ | ⟨g2, cap2, h1⟩
        · omega
        · cases h1; exact ⟨g2, rfl⟩
      have hat : C.tos[k]? = some C.tos[k] := List.getElem?_eq_getElem hlt
      obtain ⟨k0, k1, k2, k3⟩ := ((Sp.pick [_, _, _] [2, 0, 1] (by decide) (HS.out))).rcCells hat
      have HT := Lib.hid (take_snocX Rc.state hlt)
      have HLN : Hid (((C.tos.take k).map Rc.state).length = k) := by unfold Hid; rw [List.length_map, List.length_take]; omega
      clear hat
      generalize (C.tos.take k).map Rc.state = sl at *
      generalize C.tos[k] = r at *
      obtain ⟨⟨rl, rd⟩, rst, rac⟩ := r
      dsimp only at *
      obtain ⟨gg, cc, w4, hrun, S4⟩ := Sp.appendInt 52 rst (by have := HLN.out; omega) ((Sp.pick [_, _, _] [0, 2, 1] (by decide) ((HS.out.box #[.string ⟨rl.toArray⟩, .string ⟨rd.toArray⟩, .int .i64 rst, .bool rac] 103).box #[.int .i64 rst] 3)))
      have hsz : (wr.alloc (.cells #[.string ⟨rl.toArray⟩, .string ⟨rd.toArray⟩, .int .i64 rst, .bool rac] 103)).heap.size = wr.heap.size + 1 := by simp
      rw [HLN.out] at hrun S4
      rw [hsz] at hrun
      clear hsz
      have HRUN := Lib.hid hrun
      have HS4 := Lib.hid S4.pull1.drop
      clear hrun S4
      go_wp2_with (at_builtin; refine wpList_append_run_g (by rfl) (by rfl) (by rfl) (by rfl) HRUN.out ?_)
      go_roundw
      case rel => exact ⟨k + 1, by go_num, by omega, by rw [HT.out]; exact HS4.out⟩
      case measure => simp [intOf]; omega
    · obtain rfl : k = C.tos.length := by omega
      rw [List.take_of_length_le (Nat.le_refl _)] at HS
      go_wp2
      go_ret
      exact ⟨_, rfl, HS.out⟩
set_option maxRecDepth 100000 in
set_option maxHeartbeats 1000000 in
theorem mailbox_any (m : Mb) (w : World) : Calls Tryz.prog 60 #[mbAgg m] w fun e w2 => e = .returned (mbAgg m) ∧ Ext [] w w2 := by
  obtain ⟨l, d⟩ := m
  have HS0 := Lib.hid (((Sp.nil w []).box (mbCells (l, d)) 37).box #[.string ⟨#[]⟩, .string ⟨#[]⟩] 97)
  unfold mbCells at HS0
  unfold mbAgg
  dsimp only at *
  have hsz : (w.alloc (.cells #[.string ⟨l.toArray⟩, .string ⟨d.toArray⟩] 37)).heap.size = w.heap.size + 1 := by simp
  rw [hsz] at HS0
  go_enter Tryz.func60, Tryz.ntmps60
  go_upto_region 1 with (fail)
  generalize (w.alloc (.cells #[.string ⟨l.toArray⟩, .string ⟨d.toArray⟩] 37)).alloc (.cells #[.string ⟨#[]⟩, .string ⟨#[]⟩] 97) = w1 at *
  generalize w.heap.size + 1 = q1 at *
  generalize w.heap.size = q0 at *
  have c0 := HS0.out.pull1.cell
  have d0 := HS0.out.cell
  have f0 := HS0.out.free
  have l0 := HS0.out.boxlt
  have HS6 := Lib.hid ((HS0.out.set (o := 0) (.string ⟨l.toArray⟩)).set (o := 1) (.string ⟨d.toArray⟩))
  go_wp2
  exact bodyPost_ret (v := .agg #[.string ⟨l.toArray⟩, .string ⟨d.toArray⟩]) (by simp [results, Tryz.results60, go_sem, d0]) rfl ⟨rfl, HS6.out.ext⟩
set_option maxRecDepth 100000 in
theorem tooLong_any (x : Bs) (w : World) (hx : x.length ≤ 1000000) : Calls Tryz.prog 87 #[.string ⟨x.toArray⟩] w fun e w2 => e = .returned (.bool (decide (998 < x.length))) ∧ w = w2 := by
  have hx' : (x.length : Int) ≤ 1000000 := by omega
  by_cases h : 998 < x.length
  · have h' : (998 : Int) < x.length := by omega
    rw [decide_eq_true h]
    clear h
    go_enter Tryz.func87, Tryz.ntmps87
    go_wp2
    go_ret
    exact ⟨rfl, rfl⟩
  · have h' : (x.length : Int) ≤ 998 := by omega
    rw [decide_eq_false h]
    clear h
    go_enter Tryz.func87, Tryz.ntmps87
    go_wp2
    go_ret
    exact ⟨ret_bool (decide_eq_false (by omega)), rfl⟩
abbrev ShortTX := {s : Bs // s.length ≤ 1000000}
instance : Inhabited ShortTX := ⟨⟨[], by decide⟩⟩
theorem shortsX : ∀ (l : List Bs), (∀ s ∈ l, s.length ≤ 1000000) → ∃ zs : List ShortTX, zs.map (·.1) = l
  | [], _ => ⟨[], rfl⟩
  | s :: l, h => by
    obtain ⟨zs, hz⟩ := shortsX l fun t ht => h t (by simp [ht])
    exact ⟨⟨s, h s (by simp)⟩ :: zs, by simp [hz]⟩
theorem anyLongS (l : List Bs) (hs : ∀ s ∈ l, s.length ≤ 1000000) (T : TxAt w v l) (S : Sp w0 [] w L) : Calls Tryz.prog 49 #[v, .func (.func 87) #[] #[]] w fun e w2 => e = .returned (.bool (l.any fun s => decide (998 < s.length))) ∧ Sp w0 [] w2 L := by
  obtain ⟨zs, rfl⟩ := shortsX l hs
  obtain ⟨a, cap, rfl, hm, h⟩ := T
  have eg : ∀ args w, (callFunc 87 args).run Tryz.prog w = .ok (.enter 87 args) w := enters_of Tryz.func87 (by kernel_rfl) rfl
  rcases h with h | ⟨b, off, rfl, h⟩
  · have : zs = [] := List.map_eq_nil_iff.1 h
    subst this
    refine (Tryz.slices_ContainsFunc_empty (α := ShortTX) a cap _ w).mono ?_
    rintro e w2 ⟨rfl, rfl⟩
    exact ⟨rfl, S⟩
  · have hp : PredAt Tryz.prog 87 #[] (fun x : ShortTX => .string ⟨x.1.toArray⟩) (fun x => decide (998 < x.1.length)) w := fun W x _ => (tooLong_any x.1 W x.2).mono fun e w2 ⟨he, hw⟩ => ⟨he, 0, by subst hw; rfl⟩
    refine (Tryz.slices_ContainsFunc (fun x : ShortTX => .string ⟨x.1.toArray⟩) (fun x => decide (998 < x.1.length)) _ #[] eg b off _ cap zs w hp (by simp) (by unfold maxLen at hm; omega) (fun j hj => ?_)).mono ?_
    · have := h j (by simpa using hj)
      rw [this]
      simp [getElem!_pos, hj]
    · rintro e w2 ⟨rfl, q, rfl⟩
      refine ⟨?_, S.drewN q⟩
      rw [List.any_map, List.length_map, List.take_length]
      rfl
theorem lnSplit_fit {s : Bs} (h : s.length ≤ 1000000) : (lnSplit s).1.length ≤ 1000002 ∧ ∀ x ∈ (lnSplit s).1, x.length ≤ 1000000 := by
  have hsf := split_facts s crlf
  unfold lnSplit
  refine ⟨by rw [List.length_dropLast]; omega, fun x hx => ?_⟩
  have := hsf.2.2 x ((List.dropLast_sublist _).subset hx)
  omega
set_option maxRecDepth 100000 in
set_option maxHeartbeats 1000000 in
theorem rightS (s : Bs) (hs : s.length ≤ 1000000) (S : Sp w0 [] w L) (E : Env w0) : Calls Tryz.prog 61 #[.string ⟨s.toArray⟩] w fun e w2 => e = .returned (.bool (bodyOk s)) ∧ Sp w0 [] w2 L := by
  have HSP := Lib.hid (lnSplitS s E hs S)
  have HF := Lib.hid (lnSplit_fit hs)
  have HV : Hid (bodyOk s = ((lnSplit s).2 == [] && (lnSplit s).1.all fun s => decide (s.length ≤ 998))) := rfl
  generalize lnSplit s = q at *
  obtain ⟨l, r⟩ := q
  dsimp only at *
  clear S E hs
  go_enter Tryz.func61, Tryz.ntmps61
  go_wp2_with fail
  refine HSP.out.mono ?_
  rintro e w1 ⟨v2, rfl, S, T⟩
  have HS1 := Lib.hid S
  have HT1 := Lib.hid T
  obtain ⟨a, cap, rfl⟩ := T.form
  clear S T HSP
  by_cases hr : r = []
  · subst hr
    have HAN := Lib.hid (anyLongS l HF.out.2 HT1.out HS1.out)
    have HB : Hid ((!l.any fun s => decide (998 < s.length)) = bodyOk s) := by
      unfold Hid
      rw [HV.out, List.not_any_eq_all_not]
      simp only [beq_self_eq_true, Bool.true_and]
      congr 1
      funext x
      rw [Bool.eq_iff_iff]
      simp
    generalize (l.any fun s => decide (998 < s.length)) = an at *
    go_wp2_with fail
    refine HAN.out.mono ?_
    rintro e w2 ⟨rfl, S⟩
    have HS2 := Lib.hid S
    clear S
    go_wp2
    go_ret
    exact ⟨ret_bool HB.out, HS2.out⟩
  · have HB : Hid (bodyOk s = false) := by
      unfold Hid
      rw [HV.out, show (r == []) = false from by simpa using hr]
      rfl
    have hr1 : (r == []) = false := by simpa using hr
    go_wp2
    go_ret
    exact ⟨ret_bool HB.out.symm, HS1.out⟩
end
end Go.Proofs.YtapenolbbofjkaaGreatDoor

/-! ClY -/
namespace Go.Proofs.YtapenolbbofjkaaGreatDoor
open Go.RowKit

section
variable {w0 w : World} {L : List Res} {F0 : List Nat} {p b : Nat} {v : Value} {C : Cl}
/-- What New hands back. -/
def OutN (w0 : World) (L : List Res) (o : Option Cl × Int) (e : Ending) (w2 : World) : Prop :=
  match o.1 with
  | some C => ∃ p v, e = .returned (.tuple #[.pointer (some ⟨p, 0, none⟩), .int .i64 o.2]) ∧ Sp w0 [] w2 (clR p C v L)
  | none => e = .returned (.tuple #[.pointer none, .int .i64 o.2]) ∧ Sp w0 [] w2 L
def rc0 (b : Mb) : Rc := ⟨b, 0, false⟩
set_option maxRecDepth 100000 in
set_option maxHeartbeats 8000000 in
theorem clNewBad (host : Bs) (fr : Mb) (tv : Value) (to_ : List Mb) (body : Bs) (hh : host.length ≤ 300) (h1 : fr.1.length ≤ 300) (h2 : fr.2.length ≤ 300) (htl : to_.length ≤ 100)
    (hbad : (domV host).2 ≠ 0 ∨ (domV host).1 ≠ host ∨ (noBoxE fr = false ∧ mbMay fr = false) ∨ to_.length = 0 ∨ 10 < to_.length)
    (E : Env w0) (T : BxAt w tv to_) (S : Sp w0 [] w L) : Calls Tryz.prog 28 #[.string ⟨host.toArray⟩, mbAgg fr, tv, .string ⟨body.toArray⟩] w fun e w2 => e = .returned (.tuple #[.pointer none, .int .i64 1]) ∧ Sp w0 [] w2 L := by
  have HE := Lib.hid E
  have HH := Lib.hid hh
  have HTL := Lib.hid htl
  have HS0 := Lib.hid (S.box (mbCells fr) 37)
  have HT := Lib.hid T
  have HMF := Lib.hid (fun w' => mailbox_any fr w')
  have HMY := Lib.hid (fun (w' : World) (L' : List Res) (S' : Sp w0 [] w' L') => mayS fr S' E (by omega) (by omega))
  obtain ⟨a, cap, rfl⟩ := T.form
  have htl' : (to_.length : Int) ≤ 100 := by omega
  unfold mbAgg at HMF HMY ⊢
  unfold mbCells at HS0
  obtain ⟨fl, fd⟩ := fr
  dsimp only at *
  clear S E T hh h1 h2 htl
  by_cases hde : (domV host).2 = 0
  rotate_left 1
  · have HDV : Hid (domV host = ((domV host).1, (domV host).2)) := rfl
    generalize (domV host).1 = dh at *
    generalize (domV host).2 = de at *
    have b0 : (de != 0) = true := by simpa using hde
    clear hde hbad
    go_enter Tryz.func28, Tryz.ntmps28
    go_wp2_with fail
    refine (domainS host HS0.out HE.out (by have := HH.out; omega)).mono ?_
    generalize w.alloc (.cells #[.string ⟨_⟩, .string ⟨_⟩] 37) = w1 at *
    generalize w.heap.size = q5 at *
    rw [HDV.out]
    rintro e w2 ⟨rfl, S⟩
    have HS2 := Lib.hid S
    have c2 := S.cell
    clear S HS0
    go_wp2
    go_ret2
    refine ⟨rfl, ?_⟩
    exact HS2.out.drop
  by_cases hdh : (domV host).1 = host
  rotate_left 1
  · have HDV : Hid (domV host = ((domV host).1, 0)) := by unfold Hid; rw [← hde]
    generalize (domV host).1 = dh at *
    have b0 : (dh != host) = true := by simpa using hdh
    clear hde hbad
    go_enter Tryz.func28, Tryz.ntmps28
    go_wp2_with fail
    refine (domainS host HS0.out HE.out (by have := HH.out; omega)).mono ?_
    generalize w.alloc (.cells #[.string ⟨_⟩, .string ⟨_⟩] 37) = w1 at *
    generalize w.heap.size = q5 at *
    rw [HDV.out]
    rintro e w2 ⟨rfl, S⟩
    have HS2 := Lib.hid S
    have c2 := S.cell
    clear S HS0
    go_wp2
    go_ret2
    refine ⟨rfl, ?_⟩
    exact HS2.out.drop
  have HDV : Hid (domV host = (host, 0)) := Prod.ext hdh hde
  have b0 : (host != host) = false := by simp
  have hbad2 : (noBoxE (fl, fd) = false ∧ mbMay (fl, fd) = false) ∨ to_.length = 0 ∨ 10 < to_.length := by
    rcases hbad with h | h | h
    · exact absurd hde h
    · exact absurd hdh h
    · exact h
  clear hbad hde hdh
  by_cases hbx : fl = [] ∧ fd = []
  · obtain ⟨rfl, rfl⟩ := hbx
    have hlen : to_.length = 0 ∨ 10 < to_.length := by
      rcases hbad2 with h | h
      · exact absurd h.1 (by decide)
      · exact h
    clear hbad2
    rcases hlen with h | h
    · obtain rfl := List.eq_nil_of_length_eq_zero h
      go_enter Tryz.func28, Tryz.ntmps28
      go_wp2_with fail
      refine (domainS host HS0.out HE.out (by have := HH.out; omega)).mono ?_
      generalize w.alloc (.cells #[.string ⟨_⟩, .string ⟨_⟩] 37) = w1 at *
      generalize w.heap.size = q5 at *
      rw [HDV.out]
      rintro e w2 ⟨rfl, S⟩
      have HS2 := Lib.hid S
      have c2 := S.cell
      clear S HS0
      go_wp2
      go_ret2
      refine ⟨rfl, ?_⟩
      exact HS2.out.drop
    · have hl1 : ((to_.length : Int) == 0) = false := by rw [beq_eq_false_iff_ne]; omega
      have hl2 : (10 : Int) < to_.length := by omega
      clear h
      go_enter Tryz.func28, Tryz.ntmps28
      go_wp2_with fail
      refine (domainS host HS0.out HE.out (by have := HH.out; omega)).mono ?_
      generalize w.alloc (.cells #[.string ⟨_⟩, .string ⟨_⟩] 37) = w1 at *
      generalize w.heap.size = q5 at *
      rw [HDV.out]
      rintro e w2 ⟨rfl, S⟩
      have HS2 := Lib.hid S
      have c2 := S.cell
      clear S HS0
      go_wp2
      go_ret2
      refine ⟨rfl, ?_⟩
      exact HS2.out.drop
  have hnb : noBoxE (fl, fd) = false := by
    unfold noBoxE
    rw [← Bool.not_eq_true]
    simpa using fun h => fun k => hbx ⟨h, k⟩
  have hor : (¬ fl = []) ∨ (fl = [] ∧ ¬ fd = []) := by
    by_cases h : fl = []
    · exact .inr ⟨h, fun hd => hbx ⟨h, hd⟩⟩
    · exact .inl h
  cases hmm : mbMay (fl, fd) with
  | false =>
    have HMM := Lib.hid hmm
    clear hmm hnb hbx hbad2
    rcases hor with h | ⟨rfl, h⟩
    all_goals
      go_enter Tryz.func28, Tryz.ntmps28
      go_wp2_with fail
      refine (domainS host HS0.out HE.out (by have := HH.out; omega)).mono ?_
      generalize w.alloc (.cells #[.string ⟨_⟩, .string ⟨_⟩] 37) = w1 at *
      generalize w.heap.size = q5 at *
      rw [HDV.out]
      rintro e w2 ⟨rfl, S⟩
      have HS2 := Lib.hid S
      have c2 := S.cell
      clear S HS0
      go_wp2_with fail
      refine (HMF.out _).mono ?_
      rintro e w3 ⟨rfl, hx⟩
      have HS3 := Lib.hid (HS2.out.ext0 hx)
      clear hx
      go_wp2_with fail
      refine (HMY.out _ _ HS3.out).mono ?_
      rw [HMM.out]
      rintro e w4 ⟨rfl, S⟩
      have HS4 := Lib.hid S
      clear S
      go_wp2
      go_ret2
      refine ⟨rfl, ?_⟩
      exact HS4.out.drop
  | true =>
    have HMM := Lib.hid hmm
    have hlen : to_.length = 0 ∨ 10 < to_.length := by
      rcases hbad2 with h | h
      · rw [hmm] at h; cases h.2
      · exact h
    clear hmm hnb hbx hbad2
    rcases hlen with hl | hl
    · obtain rfl := List.eq_nil_of_length_eq_zero hl
      rcases hor with h | ⟨rfl, h⟩
      all_goals
        go_enter Tryz.func28, Tryz.ntmps28
        go_wp2_with fail
        refine (domainS host HS0.out HE.out (by have := HH.out; omega)).mono ?_
        generalize w.alloc (.cells #[.string ⟨_⟩, .string ⟨_⟩] 37) = w1 at *
        generalize w.heap.size = q5 at *
        rw [HDV.out]
        rintro e w2 ⟨rfl, S⟩
        have HS2 := Lib.hid S
        have c2 := S.cell
        clear S HS0
        go_wp2_with fail
        refine (HMF.out _).mono ?_
        rintro e w3 ⟨rfl, hx⟩
        have HS3 := Lib.hid (HS2.out.ext0 hx)
        clear hx
        go_wp2_with fail
        refine (HMY.out _ _ HS3.out).mono ?_
        rw [HMM.out]
        rintro e w4 ⟨rfl, S⟩
        have HS4 := Lib.hid S
        clear S
        go_wp2
        go_ret2
        refine ⟨rfl, ?_⟩
        exact HS4.out.drop
    · have hl1 : ((to_.length : Int) == 0) = false := by rw [beq_eq_false_iff_ne]; omega
      have hl2 : (10 : Int) < to_.length := by omega
      clear hl
      rcases hor with h | ⟨rfl, h⟩
      all_goals
        go_enter Tryz.func28, Tryz.ntmps28
        go_wp2_with fail
        refine (domainS host HS0.out HE.out (by have := HH.out; omega)).mono ?_
        generalize w.alloc (.cells #[.string ⟨_⟩, .string ⟨_⟩] 37) = w1 at *
        generalize w.heap.size = q5 at *
        rw [HDV.out]
        rintro e w2 ⟨rfl, S⟩
        have HS2 := Lib.hid S
        have c2 := S.cell
        clear S HS0
        go_wp2_with fail
        refine (HMF.out _).mono ?_
        rintro e w3 ⟨rfl, hx⟩
        have HS3 := Lib.hid (HS2.out.ext0 hx)
        clear hx
        go_wp2_with fail
        refine (HMY.out _ _ HS3.out).mono ?_
        rw [HMM.out]
        rintro e w4 ⟨rfl, S⟩
        have HS4 := Lib.hid S
        clear S
        go_wp2
        go_ret2
        refine ⟨rfl, ?_⟩
        exact HS4.out.drop
set_option maxRecDepth 100000 in
set_option maxHeartbeats 8000000 in
theorem clNew_good (host : Bs) (fr : Mb) (tv : Value) (to_ : List Mb) (body : Bs) (hh : host.length ≤ 300) (h1 : fr.1.length ≤ 300) (h2 : fr.2.length ≤ 300) (hb : body.length ≤ 4096) (ht : ∀ b ∈ to_, b.1.length ≤ 300 ∧ b.2.length ≤ 300)
    (hdv : domV host = (host, 0)) (hfr : fr = ([], []) ∨ mbMay fr = true) (hn1 : 1 ≤ to_.length) (hn2 : to_.length ≤ 10)
    (E : Env w) (T : BxAt w tv to_) : Calls Tryz.prog 28 #[.string ⟨host.toArray⟩, mbAgg fr, tv, .string ⟨body.toArray⟩] w (OutN w [] (clNew host fr to_ body)) := by
  have HD : Hid (clNew host fr to_ body = if to_.all mbMay = false then (none, 1) else if bodyOk body = false then (none, 2) else (some ⟨host, fr, to_.map rc0, body, 0, 0⟩, 0)) := by
    unfold Hid clNew
    rw [if_neg]
    · rfl
    · rw [hdv]
      rintro (h | h | h | h | h)
      · exact h rfl
      · exact h rfl
      · rcases hfr with rfl | hm
        · exact absurd h.1 (by decide)
        · rw [hm] at h; cases h.2
      · omega
      · omega
  have HE := Lib.hid E
  have HH := Lib.hid hh
  have HB := Lib.hid hb
  have HTB := Lib.hid ht
  have HDV := Lib.hid hdv
  have HS0 := Lib.hid ((Sp.nil w []).box (mbCells fr) 37)
  have HT := Lib.hid T
  have HMF := Lib.hid (fun w' => mailbox_any fr w')
  have HMY := Lib.hid (fun (w' : World) (L' : List Res) (S' : Sp w [] w' L') => mayS fr S' E (by omega) (by omega))
  obtain ⟨a, cap, rfl⟩ := T.form
  have hl1 : ((to_.length : Int) == 0) = false := by rw [beq_eq_false_iff_ne]; omega
  have hl2 : (to_.length : Int) ≤ 10 := by omega
  have hb0 : (host != host) = false := by simp
  unfold mbAgg at HMF HMY ⊢
  unfold mbCells at HS0
  obtain ⟨fl, fd⟩ := fr
  dsimp only at *
  clear E T hh h1 h2 hb ht hdv hn1 hn2
  by_cases hbx : fl = [] ∧ fd = []
  · obtain ⟨rfl, rfl⟩ := hbx
    clear hfr
    go_enter Tryz.func28, Tryz.ntmps28
    go_wp2_with fail
    refine (domainS host HS0.out HE.out (by have := HH.out; omega)).mono ?_
    generalize w.alloc (.cells #[.string ⟨_⟩, .string ⟨_⟩] 37) = w1 at *
    generalize w.heap.size = q5 at *
    rw [HDV.out]
    rintro e w2 ⟨rfl, S⟩
    have HS2 := Lib.hid S
    have c2 := S.cell
    clear S HS0
    have HSX := Lib.hid HS2.out
    go_wp2_with fail
    refine (HMF.out _).mono ?_
    rintro e w5 ⟨rfl, hx⟩
    have HS6 := Lib.hid (((HSX.out.ext0 hx).box (clCells ⟨host, ([], []), [], body, 0, 0⟩ (.slice none 0 0)) 101).rowNil 103 4).pull1
    clear hx c2
    unfold clCells at HS6
    dsimp only at HS6
    go_wp2_with fail
    generalize w5.alloc (.cells #[.string ⟨_⟩, .string ⟨_⟩, .string ⟨_⟩, .slice none 0 0, .string ⟨_⟩, .int .i64 0, .int .i64 0] 101) = w6 at *
    generalize w5.heap.size = q at *
    go_loopw [56] (fun i wr => ∃ (k : Nat) (v : Value), i = .int .i64 k ∧ k ≤ to_.length ∧ (to_.take k).all mbMay = true ∧ Sp w [] wr (clR q ⟨host, ([], []), (to_.take k).map rc0, body, 0, 0⟩ v (boxR q5 #[.string ⟨#[]⟩, .string ⟨#[]⟩] 37 :: []))) (fun i _ => to_.length - (intOf i).toNat)
    case atStart => exact ⟨0, _, rfl, Nat.zero_le _, rfl, HS6.out⟩
    case round =>
      clear HS6 HSX
      obtain ⟨k, v, rfl, hk, hall, S⟩ := hrel
      have HS := Lib.hid S
      have HALL := Lib.hid hall
      have HT1 := Lib.hid (HT.out.ext S.ext)
      clear S hall
      by_cases hlt : k < to_.length
      · have hlt' : (k : Int) < to_.length := by omega
        obtain ⟨b, off, rfl, k0, k1⟩ := HT1.out.at hlt
        have HBL := Lib.hid (HTB.out _ (List.getElem_mem hlt))
        have HST : Hid (to_.take (k + 1) = to_.take k ++ [to_[k]]) := List.take_succ_eq_append_getElem hlt
        have HNO : Hid (mbMay to_[k] = false → to_.all mbMay = false) := fun h => by
          rw [← Bool.not_eq_true, List.all_eq_true]
          intro h2
          have := h2 to_[k] (List.getElem_mem hlt)
          rw [h] at this
          cases this
        have HLN : Hid (((to_.take k).map rc0).length = k) := by unfold Hid; rw [List.length_map, List.length_take]; omega
        have HMB := Lib.hid (fun w' => mailbox_any to_[k] w')
        have HMM := Lib.hid (fun (w' : World) (L' : List Res) (S' : Sp w [] w' L') => mayS to_[k] S' HE.out (by have := HBL.out; omega) (by have := HBL.out; omega))
        unfold mbAgg at HMB HMM
        generalize to_[k] = m at *
        generalize hrs : (to_.take k).map rc0 = rs at *
        have HRS := Lib.hid hrs
        clear hrs
        obtain ⟨bl, bd⟩ := m
        dsimp only at *
        have HSB := Lib.hid (HS.out.box #[.string ⟨bl.toArray⟩, .string ⟨bd.toArray⟩] 37)
        go_wp2_with fail
        refine (HMB.out _).mono ?_
        rintro e w7 ⟨rfl, hx⟩
        generalize wr.heap.size = q14 at *
        have HS7 := Lib.hid (HSB.out.ext0 hx)
        clear hx k0 k1 HSB
        go_wp2_with fail
        refine (HMM.out _ _ HS7.out).mono ?_
        cases hm : mbMay (bl, bd) with
        | false =>
          have HN := Lib.hid (HNO.out hm)
          have HV : Hid (clNew host ([], []) to_ body = (none, 1)) := by unfold Hid; rw [HD.out, if_pos HN.out]
          rintro e w8 ⟨rfl, S⟩
          have HS8 := Lib.hid S
          clear S hm
          go_wp2
          go_ret2
          rw [HV.out]
          exact ⟨rfl, HS8.out.drop.drop.drop.drop⟩
        | true =>
          have HM := Lib.hid hm
          rintro e w8 ⟨rfl, S⟩
          have HS8 := Lib.hid S
          have c8 := S.cell
          have d8 := S.pull1.cell
          clear S hm HS7
          unfold clCells at d8
          dsimp only at d8
          go_wp2_with fail
          go_region_law (first
            | (refine if_wanted rfl ?_; go_simp; go_at_call 60; refine (HMB.out _).mono ?_; rintro e w9 ⟨rfl, hx⟩; have HS9 := Lib.hid (HS8.out.drew.ext0 hx); have d9 := HS9.out.pull1.cell; have f9 := HS9.out.pull1.free; obtain ⟨gg, cap2, w10, hrun, S10⟩ := Sp.appendRec 99 (rc0 (bl, bd)) (by have := HLN.out; show rs.length < _; omega) ((Sp.pick [_, _, _, _] [0, 3, 1, 2] (by decide) (HS9.out.box #[.string ⟨bl.toArray⟩, .string ⟨bd.toArray⟩, .int .i64 0, .bool false] 103))); rw [HLN.out] at hrun S10; have HRUN := Lib.hid hrun; have HS10 := Lib.hid S10; have e9 := (HS9.out.box #[.string ⟨bl.toArray⟩, .string ⟨bd.toArray⟩, .int .i64 0, .bool false] 103).pull2.cell; have d10 := ((Sp.pick [_, _, _] [2, 0, 1] (by decide) (S10))).cell; have f10 := ((Sp.pick [_, _, _] [2, 0, 1] (by decide) (S10))).free; clear hrun S10 hx; unfold clCells at d9 e9 d10; dsimp only at d9 e9 d10)
            | (refine step_append_run (by rfl) (by rfl) (by rfl) (by rfl) HRUN.out ?_))
          all_goals
            go_wp2_with fail
            go_roundw
            case rel => exact ⟨k + 1, .slice (some ⟨gg, 0, none⟩) (k + 1) cap2, by go_num, by omega, by rw [HST.out, List.all_append, HALL.out]; simp [HM.out], by
              have h1 : (to_.take (k + 1)).map rc0 = rs ++ [rc0 (bl, bd)] := by rw [HST.out, List.map_append, HRS.out]; rfl
              rw [h1]
              have h2 := (((Sp.pick [_, _, _] [2, 0, 1] (by decide) (HS10.out))).set (o := 3) (.slice (some ⟨gg, 0, none⟩) (k + 1) cap2)).pull2.drop
              exact h2⟩
            case measure => simp [intOf]; omega
      · obtain rfl : k = to_.length := by omega
        have HAM : Hid (to_.all mbMay = true) := by
          have := HALL.out
          rw [List.take_of_length_le (Nat.le_refl _)] at this
          exact this
        rw [List.take_of_length_le (Nat.le_refl _)] at HS
        have HV : Hid (clNew host ([], []) to_ body = if bodyOk body = false then (none, 2) else (some ⟨host, ([], []), to_.map rc0, body, 0, 0⟩, 0)) := by unfold Hid; rw [HD.out, if_neg (by rw [HAM.out]; decide)]
        go_wp2_with fail
        refine (rightS body (by have := HB.out; omega) HS.out HE.out).mono ?_
        cases hbo : bodyOk body with
        | true =>
          have HV2 : Hid (clNew host ([], []) to_ body = (some ⟨host, ([], []), to_.map rc0, body, 0, 0⟩, 0)) := by unfold Hid; rw [HV.out, if_neg (by rw [hbo]; decide)]
          rintro e w8 ⟨rfl, S⟩
          have HS8 := Lib.hid S
          clear S hbo HS
          go_wp2
          go_ret2
          rw [HV2.out]
          exact ⟨q, v, rfl, (Sp.pick [_, _, _] [0, 1] (by decide) (HS8.out))⟩
        | false =>
          have HV2 : Hid (clNew host ([], []) to_ body = (none, 2)) := by unfold Hid; rw [HV.out, if_pos hbo]
          rintro e w8 ⟨rfl, S⟩
          have HS8 := Lib.hid S
          clear S hbo HS
          go_wp2
          go_ret2
          rw [HV2.out]
          exact ⟨rfl, HS8.out.drop.drop.drop⟩
  have hor : (¬ fl = []) ∨ (fl = [] ∧ ¬ fd = []) := by
    by_cases h : fl = []
    · exact .inr ⟨h, fun hd => hbx ⟨h, hd⟩⟩
    · exact .inl h
  have HMM0 : Hid (mbMay (fl, fd) = true) := by
    rcases hfr with h | h
    · exact absurd (by simpa using h) hbx
    · exact h
  clear hfr hbx
  rcases hor with h | ⟨rfl, h⟩
  · skip
    go_enter Tryz.func28, Tryz.ntmps28
    go_wp2_with fail
    refine (domainS host HS0.out HE.out (by have := HH.out; omega)).mono ?_
    generalize w.alloc (.cells #[.string ⟨_⟩, .string ⟨_⟩] 37) = w1 at *
    generalize w.heap.size = q5 at *
    rw [HDV.out]
    rintro e w2 ⟨rfl, S⟩
    have HS2 := Lib.hid S
    have c2 := S.cell
    clear S HS0
    go_wp2_with fail
    refine (HMF.out _).mono ?_
    rintro e w3 ⟨rfl, hx⟩
    have HS3 := Lib.hid (HS2.out.ext0 hx)
    clear hx
    go_wp2_with fail
    refine (HMY.out _ _ HS3.out).mono ?_
    rw [HMM0.out]
    rintro e w4 ⟨rfl, S⟩
    have HSX := Lib.hid S
    have c3 := S.cell
    clear S h
    go_wp2_with fail
    refine (HMF.out _).mono ?_
    rintro e w5 ⟨rfl, hx⟩
    have HS6 := Lib.hid (((HSX.out.ext0 hx).box (clCells ⟨host, (fl, fd), [], body, 0, 0⟩ (.slice none 0 0)) 101).rowNil 103 4).pull1
    clear hx c2
    unfold clCells at HS6
    dsimp only at HS6
    go_wp2_with fail
    generalize w5.alloc (.cells #[.string ⟨_⟩, .string ⟨_⟩, .string ⟨_⟩, .slice none 0 0, .string ⟨_⟩, .int .i64 0, .int .i64 0] 101) = w6 at *
    generalize w5.heap.size = q at *
    go_loopw [56] (fun i wr => ∃ (k : Nat) (v : Value), i = .int .i64 k ∧ k ≤ to_.length ∧ (to_.take k).all mbMay = true ∧ Sp w [] wr (clR q ⟨host, (fl, fd), (to_.take k).map rc0, body, 0, 0⟩ v (boxR q5 #[.string ⟨fl.toArray⟩, .string ⟨fd.toArray⟩] 37 :: []))) (fun i _ => to_.length - (intOf i).toNat)
    case atStart => exact ⟨0, _, rfl, Nat.zero_le _, rfl, HS6.out⟩
    case round =>
      clear HS6 HSX
      obtain ⟨k, v, rfl, hk, hall, S⟩ := hrel
      have HS := Lib.hid S
      have HALL := Lib.hid hall
      have HT1 := Lib.hid (HT.out.ext S.ext)
      clear S hall
      by_cases hlt : k < to_.length
      · have hlt' : (k : Int) < to_.length := by omega
        obtain ⟨b, off, rfl, k0, k1⟩ := HT1.out.at hlt
        have HBL := Lib.hid (HTB.out _ (List.getElem_mem hlt))
        have HST : Hid (to_.take (k + 1) = to_.take k ++ [to_[k]]) := List.take_succ_eq_append_getElem hlt
        have HNO : Hid (mbMay to_[k] = false → to_.all mbMay = false) := fun h => by
          rw [← Bool.not_eq_true, List.all_eq_true]
          intro h2
          have := h2 to_[k] (List.getElem_mem hlt)
          rw [h] at this
          cases this
        have HLN : Hid (((to_.take k).map rc0).length = k) := by unfold Hid; rw [List.length_map, List.length_take]; omega
        have HMB := Lib.hid (fun w' => mailbox_any to_[k] w')
        have HMM := Lib.hid (fun (w' : World) (L' : List Res) (S' : Sp w [] w' L') => mayS to_[k] S' HE.out (by have := HBL.out; omega) (by have := HBL.out; omega))
        unfold mbAgg at HMB HMM
        generalize to_[k] = m at *
        generalize hrs : (to_.take k).map rc0 = rs at *
        have HRS := Lib.hid hrs
        clear hrs
        obtain ⟨bl, bd⟩ := m
        dsimp only at *
        have HSB := Lib.hid (HS.out.box #[.string ⟨bl.toArray⟩, .string ⟨bd.toArray⟩] 37)
        go_wp2_with fail
        refine (HMB.out _).mono ?_
        rintro e w7 ⟨rfl, hx⟩
        generalize wr.heap.size = q14 at *
        have HS7 := Lib.hid (HSB.out.ext0 hx)
        clear hx k0 k1 HSB
        go_wp2_with fail
        refine (HMM.out _ _ HS7.out).mono ?_
        cases hm : mbMay (bl, bd) with
        | false =>
          have HN := Lib.hid (HNO.out hm)
          have HV : Hid (clNew host (fl, fd) to_ body = (none, 1)) := by unfold Hid; rw [HD.out, if_pos HN.out]
          rintro e w8 ⟨rfl, S⟩
          have HS8 := Lib.hid S
          clear S hm
          go_wp2
          go_ret2
          rw [HV.out]
          exact ⟨rfl, HS8.out.drop.drop.drop.drop⟩
        | true =>
          have HM := Lib.hid hm
          rintro e w8 ⟨rfl, S⟩
          have HS8 := Lib.hid S
          have c8 := S.cell
          have d8 := S.pull1.cell
          clear S hm HS7
          unfold clCells at d8
          dsimp only at d8
          go_wp2_with fail
          go_region_law (first
            | (refine if_wanted rfl ?_; go_simp; go_at_call 60; refine (HMB.out _).mono ?_; rintro e w9 ⟨rfl, hx⟩; have HS9 := Lib.hid (HS8.out.drew.ext0 hx); have d9 := HS9.out.pull1.cell; have f9 := HS9.out.pull1.free; obtain ⟨gg, cap2, w10, hrun, S10⟩ := Sp.appendRec 99 (rc0 (bl, bd)) (by have := HLN.out; show rs.length < _; omega) ((Sp.pick [_, _, _, _] [0, 3, 1, 2] (by decide) (HS9.out.box #[.string ⟨bl.toArray⟩, .string ⟨bd.toArray⟩, .int .i64 0, .bool false] 103))); rw [HLN.out] at hrun S10; have HRUN := Lib.hid hrun; have HS10 := Lib.hid S10; have e9 := (HS9.out.box #[.string ⟨bl.toArray⟩, .string ⟨bd.toArray⟩, .int .i64 0, .bool false] 103).pull2.cell; have d10 := ((Sp.pick [_, _, _] [2, 0, 1] (by decide) (S10))).cell; have f10 := ((Sp.pick [_, _, _] [2, 0, 1] (by decide) (S10))).free; clear hrun S10 hx; unfold clCells at d9 e9 d10; dsimp only at d9 e9 d10)
            | (refine step_append_run (by rfl) (by rfl) (by rfl) (by rfl) HRUN.out ?_))
          all_goals
            go_wp2_with fail
            go_roundw
            case rel => exact ⟨k + 1, .slice (some ⟨gg, 0, none⟩) (k + 1) cap2, by go_num, by omega, by rw [HST.out, List.all_append, HALL.out]; simp [HM.out], by
              have h1 : (to_.take (k + 1)).map rc0 = rs ++ [rc0 (bl, bd)] := by rw [HST.out, List.map_append, HRS.out]; rfl
              rw [h1]
              have h2 := (((Sp.pick [_, _, _] [2, 0, 1] (by decide) (HS10.out))).set (o := 3) (.slice (some ⟨gg, 0, none⟩) (k + 1) cap2)).pull2.drop
              exact h2⟩
            case measure => simp [intOf]; omega
      · obtain rfl : k = to_.length := by omega
        have HAM : Hid (to_.all mbMay = true) := by
          have := HALL.out
          rw [List.take_of_length_le (Nat.le_refl _)] at this
          exact this
        rw [List.take_of_length_le (Nat.le_refl _)] at HS
        have HV : Hid (clNew host (fl, fd) to_ body = if bodyOk body = false then (none, 2) else (some ⟨host, (fl, fd), to_.map rc0, body, 0, 0⟩, 0)) := by unfold Hid; rw [HD.out, if_neg (by rw [HAM.out]; decide)]
        go_wp2_with fail
        refine (rightS body (by have := HB.out; omega) HS.out HE.out).mono ?_
        cases hbo : bodyOk body with
        | true =>
          have HV2 : Hid (clNew host (fl, fd) to_ body = (some ⟨host, (fl, fd), to_.map rc0, body, 0, 0⟩, 0)) := by unfold Hid; rw [HV.out, if_neg (by rw [hbo]; decide)]
          rintro e w8 ⟨rfl, S⟩
          have HS8 := Lib.hid S
          clear S hbo HS
          go_wp2
          go_ret2
          rw [HV2.out]
          exact ⟨q, v, rfl, (Sp.pick [_, _, _] [0, 1] (by decide) (HS8.out))⟩
        | false =>
          have HV2 : Hid (clNew host (fl, fd) to_ body = (none, 2)) := by unfold Hid; rw [HV.out, if_pos hbo]
          rintro e w8 ⟨rfl, S⟩
          have HS8 := Lib.hid S
          clear S hbo HS
          go_wp2
          go_ret2
          rw [HV2.out]
          exact ⟨rfl, HS8.out.drop.drop.drop⟩
  · skip
    go_enter Tryz.func28, Tryz.ntmps28
    go_wp2_with fail
    refine (domainS host HS0.out HE.out (by have := HH.out; omega)).mono ?_
    generalize w.alloc (.cells #[.string ⟨_⟩, .string ⟨_⟩] 37) = w1 at *
    generalize w.heap.size = q5 at *
    rw [HDV.out]
    rintro e w2 ⟨rfl, S⟩
    have HS2 := Lib.hid S
    have c2 := S.cell
    clear S HS0
    go_wp2_with fail
    refine (HMF.out _).mono ?_
    rintro e w3 ⟨rfl, hx⟩
    have HS3 := Lib.hid (HS2.out.ext0 hx)
    clear hx
    go_wp2_with fail
    refine (HMY.out _ _ HS3.out).mono ?_
    rw [HMM0.out]
    rintro e w4 ⟨rfl, S⟩
    have HSX := Lib.hid S
    have c3 := S.cell
    clear S h
    go_wp2_with fail
    refine (HMF.out _).mono ?_
    rintro e w5 ⟨rfl, hx⟩
    have HS6 := Lib.hid (((HSX.out.ext0 hx).box (clCells ⟨host, ([], fd), [], body, 0, 0⟩ (.slice none 0 0)) 101).rowNil 103 4).pull1
    clear hx c2
    unfold clCells at HS6
    dsimp only at HS6
    go_wp2_with fail
    generalize w5.alloc (.cells #[.string ⟨_⟩, .string ⟨_⟩, .string ⟨_⟩, .slice none 0 0, .string ⟨_⟩, .int .i64 0, .int .i64 0] 101) = w6 at *
    generalize w5.heap.size = q at *
    go_loopw [56] (fun i wr => ∃ (k : Nat) (v : Value), i = .int .i64 k ∧ k ≤ to_.length ∧ (to_.take k).all mbMay = true ∧ Sp w [] wr (clR q ⟨host, ([], fd), (to_.take k).map rc0, body, 0, 0⟩ v (boxR q5 #[.string ⟨#[]⟩, .string ⟨fd.toArray⟩] 37 :: []))) (fun i _ => to_.length - (intOf i).toNat)
    case atStart => exact ⟨0, _, rfl, Nat.zero_le _, rfl, HS6.out⟩
    case round =>
      clear HS6 HSX
      obtain ⟨k, v, rfl, hk, hall, S⟩ := hrel
      have HS := Lib.hid S
      have HALL := Lib.hid hall
      have HT1 := Lib.hid (HT.out.ext S.ext)
      clear S hall
      by_cases hlt : k < to_.length
      · have hlt' : (k : Int) < to_.length := by omega
        obtain ⟨b, off, rfl, k0, k1⟩ := HT1.out.at hlt
        have HBL := Lib.hid (HTB.out _ (List.getElem_mem hlt))
        have HST : Hid (to_.take (k + 1) = to_.take k ++ [to_[k]]) := List.take_succ_eq_append_getElem hlt
        have HNO : Hid (mbMay to_[k] = false → to_.all mbMay = false) := fun h => by
          rw [← Bool.not_eq_true, List.all_eq_true]
          intro h2
          have := h2 to_[k] (List.getElem_mem hlt)
          rw [h] at this
          cases this
        have HLN : Hid (((to_.take k).map rc0).length = k) := by unfold Hid; rw [List.length_map, List.length_take]; omega
        have HMB := Lib.hid (fun w' => mailbox_any to_[k] w')
        have HMM := Lib.hid (fun (w' : World) (L' : List Res) (S' : Sp w [] w' L') => mayS to_[k] S' HE.out (by have := HBL.out; omega) (by have := HBL.out; omega))
        unfold mbAgg at HMB HMM
        generalize to_[k] = m at *
        generalize hrs : (to_.take k).map rc0 = rs at *
        have HRS := Lib.hid hrs
        clear hrs
        obtain ⟨bl, bd⟩ := m
        dsimp only at *
        have HSB := Lib.hid (HS.out.box #[.string ⟨bl.toArray⟩, .string ⟨bd.toArray⟩] 37)
        go_wp2_with fail
        refine (HMB.out _).mono ?_
        rintro e w7 ⟨rfl, hx⟩
        generalize wr.heap.size = q14 at *
        have HS7 := Lib.hid (HSB.out.ext0 hx)
        clear hx k0 k1 HSB
        go_wp2_with fail
        refine (HMM.out _ _ HS7.out).mono ?_
        cases hm : mbMay (bl, bd) with
        | false =>
          have HN := Lib.hid (HNO.out hm)
          have HV : Hid (clNew host ([], fd) to_ body = (none, 1)) := by unfold Hid; rw [HD.out, if_pos HN.out]
          rintro e w8 ⟨rfl, S⟩
          have HS8 := Lib.hid S
          clear S hm
          go_wp2
          go_ret2
          rw [HV.out]
          exact ⟨rfl, HS8.out.drop.drop.drop.drop⟩
        | true =>
          have HM := Lib.hid hm
          rintro e w8 ⟨rfl, S⟩
          have HS8 := Lib.hid S
          have c8 := S.cell
          have d8 := S.pull1.cell
          clear S hm HS7
          unfold clCells at d8
          dsimp only at d8
          go_wp2_with fail
          go_region_law (first
            | (refine if_wanted rfl ?_; go_simp; go_at_call 60; refine (HMB.out _).mono ?_; rintro e w9 ⟨rfl, hx⟩; have HS9 := Lib.hid (HS8.out.drew.ext0 hx); have d9 := HS9.out.pull1.cell; have f9 := HS9.out.pull1.free; obtain ⟨gg, cap2, w10, hrun, S10⟩ := Sp.appendRec 99 (rc0 (bl, bd)) (by have := HLN.out; show rs.length < _; omega) ((Sp.pick [_, _, _, _] [0, 3, 1, 2] (by decide) (HS9.out.box #[.string ⟨bl.toArray⟩, .string ⟨bd.toArray⟩, .int .i64 0, .bool false] 103))); rw [HLN.out] at hrun S10; have HRUN := Lib.hid hrun; have HS10 := Lib.hid S10; have e9 := (HS9.out.box #[.string ⟨bl.toArray⟩, .string ⟨bd.toArray⟩, .int .i64 0, .bool false] 103).pull2.cell; have d10 := ((Sp.pick [_, _, _] [2, 0, 1] (by decide) (S10))).cell; have f10 := ((Sp.pick [_, _, _] [2, 0, 1] (by decide) (S10))).free; clear hrun S10 hx; unfold clCells at d9 e9 d10; dsimp only at d9 e9 d10)
            | (refine step_append_run (by rfl) (by rfl) (by rfl) (by rfl) HRUN.out ?_))
          all_goals
            go_wp2_with fail
            go_roundw
            case rel => exact ⟨k + 1, .slice (some ⟨gg, 0, none⟩) (k + 1) cap2, by go_num, by omega, by rw [HST.out, List.all_append, HALL.out]; simp [HM.out], by
              have h1 : (to_.take (k + 1)).map rc0 = rs ++ [rc0 (bl, bd)] := by rw [HST.out, List.map_append, HRS.out]; rfl
              rw [h1]
              have h2 := (((Sp.pick [_, _, _] [2, 0, 1] (by decide) (HS10.out))).set (o := 3) (.slice (some ⟨gg, 0, none⟩) (k + 1) cap2)).pull2.drop
              exact h2⟩
            case measure => simp [intOf]; omega
      · obtain rfl : k = to_.length := by omega
        have HAM : Hid (to_.all mbMay = true) := by
          have := HALL.out
          rw [List.take_of_length_le (Nat.le_refl _)] at this
          exact this
        rw [List.take_of_length_le (Nat.le_refl _)] at HS
        have HV : Hid (clNew host ([], fd) to_ body = if bodyOk body = false then (none, 2) else (some ⟨host, ([], fd), to_.map rc0, body, 0, 0⟩, 0)) := by unfold Hid; rw [HD.out, if_neg (by rw [HAM.out]; decide)]
        go_wp2_with fail
        refine (rightS body (by have := HB.out; omega) HS.out HE.out).mono ?_
        cases hbo : bodyOk body with
        | true =>
          have HV2 : Hid (clNew host ([], fd) to_ body = (some ⟨host, ([], fd), to_.map rc0, body, 0, 0⟩, 0)) := by unfold Hid; rw [HV.out, if_neg (by rw [hbo]; decide)]
          rintro e w8 ⟨rfl, S⟩
          have HS8 := Lib.hid S
          clear S hbo HS
          go_wp2
          go_ret2
          rw [HV2.out]
          exact ⟨q, v, rfl, (Sp.pick [_, _, _] [0, 1] (by decide) (HS8.out))⟩
        | false =>
          have HV2 : Hid (clNew host ([], fd) to_ body = (none, 2)) := by unfold Hid; rw [HV.out, if_pos hbo]
          rintro e w8 ⟨rfl, S⟩
          have HS8 := Lib.hid S
          clear S hbo HS
          go_wp2
          go_ret2
          rw [HV2.out]
          exact ⟨rfl, HS8.out.drop.drop.drop⟩
theorem clNewS (host : Bs) (fr : Mb) (tv : Value) (to_ : List Mb) (body : Bs) (hh : host.length ≤ 300) (h1 : fr.1.length ≤ 300) (h2 : fr.2.length ≤ 300) (hb : body.length ≤ 4096) (htl : to_.length ≤ 100) (ht : ∀ b ∈ to_, b.1.length ≤ 300 ∧ b.2.length ≤ 300)
    (E : Env w0) (T : BxAt w tv to_) (S : Sp w0 [] w L) : Calls Tryz.prog 28 #[.string ⟨host.toArray⟩, mbAgg fr, tv, .string ⟨body.toArray⟩] w (OutN w0 L (clNew host fr to_ body)) := by
  by_cases hbad : (domV host).2 ≠ 0 ∨ (domV host).1 ≠ host ∨ (noBoxE fr = false ∧ mbMay fr = false) ∨ to_.length = 0 ∨ 10 < to_.length
  · have hv : clNew host fr to_ body = (none, 1) := by unfold clNew; rw [if_pos hbad]
    rw [hv]
    exact clNewBad host fr tv to_ body hh h1 h2 htl hbad E T S
  · have hd1 : (domV host).2 = 0 := Classical.byContradiction fun h => hbad (.inl h)
    have hd2 : (domV host).1 = host := Classical.byContradiction fun h => hbad (.inr (.inl h))
    have hfr : fr = ([], []) ∨ mbMay fr = true := by
      cases hn : noBoxE fr with
      | true =>
        obtain ⟨l, d⟩ := fr
        rw [noBox_iff] at hn
        simp at hn
        exact .inl (by rw [hn.1, hn.2])
      | false =>
        cases hm : mbMay fr with
        | true => exact .inr rfl
        | false => exact absurd (.inr (.inr (.inl ⟨hn, hm⟩))) hbad
    refine (clNew_good host fr tv to_ body hh h1 h2 hb ht (Prod.ext hd2 hd1) hfr ?_ ?_ (E.sp S) T).mono fun e w2 h => ?_
    · exact Nat.pos_of_ne_zero fun h => hbad (.inr (.inr (.inr (.inl h))))
    · exact Nat.le_of_not_lt fun h => hbad (.inr (.inr (.inr (.inr h))))
    · unfold OutN at h ⊢
      generalize clNew host fr to_ body = o at *
      obtain ⟨o1, o2⟩ := o
      cases o1 with
      | none => exact ⟨h.1, S.add h.2⟩
      | some C =>
        obtain ⟨p, v, he, hs⟩ := h
        exact ⟨p, v, he, S.add hs⟩
end
end Go.Proofs.YtapenolbbofjkaaGreatDoor

/-! ClZ -/
namespace Go.Proofs.YtapenolbbofjkaaGreatDoor
open Go.RowKit

theorem rank_lt {C : Cl} (h : C.Ok) (h8 : C.phase ≠ 8) (code : Int) : C.rank < (C.take code).1.rank := by
  obtain ⟨hok, h1, _⟩ := take_goes h code
  rcases h1 with h1 | h1
  · have hl := (take_like C code).len
    have h4 := h.at4
    have := h.ph0
    have := h.ph8
    have := h.n1
    have hr : (C.take code).1.rank = 7 + C.tos.length := by
      unfold Cl.rank
      rw [h1, hl]
      rfl
    rw [hr]
    unfold Cl.rank
    split
    · omega
    · split
      · rename_i h4'
        have := h4 h4'
        omega
      · omega
  · exact h1
theorem rank_le {C : Cl} (h : C.Ok) : C.rank ≤ 17 := by
  have := h.ph0
  have := h.ph8
  have := h.n10
  have := h.atn
  unfold Cl.rank
  split
  · omega
  · split <;> omega
theorem cmSend_len {x : Cm} (h : CmS x) : (lnJoin [(cmWrite x).1]).length ≤ 200000 := by
  have := h.len
  simp [lnJoin]
  omega
theorem take_len {C : Cl} (h : C.Ok) (code : Int) : (C.take code).2.length ≤ 5000000000 := by
  have hb := h.body
  have hq : ∀ D : Cl, D.leave.2.length ≤ 5000000000 := fun D => by
    have := cmSend_len (x := ⟨8, [], ([], []), 0, false⟩) ⟨by simp, by simp, by simp, by decide, by decide⟩
    show (lnJoin [_]).length ≤ _
    omega
  have hf : ∀ (D : Cl) (cls : Int) (p : Rc → Bool), (D.fail cls p).2.length ≤ 5000000000 := fun D cls p => hq _
  have hg : ∀ (v ph : Int), (C.greet v ph).2.length ≤ 5000000000 := fun v ph => by
    have := cmSend_len (x := ⟨v, C.host, ([], []), 0, false⟩) ⟨by have := h.host; show C.host.length ≤ _; omega, by simp, by simp, (show (-9223372036854775808 : Int) ≤ 0 by decide), (show (0 : Int) ≤ 9223372036854775807 by decide)⟩
    show (lnJoin [_]).length ≤ _
    omega
  have hm : ∀ z : Int, -1 ≤ z → z ≤ 5000 → (C.mail z).2.length ≤ 5000000000 := fun z h1 h2 => by
    have := cmSend_len (x := ⟨3, [], C.from_, z, false⟩) ⟨by simp, by have := h.fl; show C.from_.1.length ≤ _; omega, by have := h.fd; show C.from_.2.length ≤ _; omega, by show _ ≤ z; omega, by show z ≤ _; omega⟩
    show (lnJoin [_]).length ≤ _
    omega
  have hn : ∀ D : Cl, (∀ r ∈ D.tos, r.box.1.length ≤ 300 ∧ r.box.2.length ≤ 300) → D.name.2.length ≤ 5000000000 := fun D hd => by
    unfold Cl.name
    split
    · rename_i r hr
      have hx := hd r (List.mem_of_getElem? hr)
      have := cmSend_len (x := ⟨4, [], r.box, 0, false⟩) ⟨by simp, by show r.box.1.length ≤ _; omega, by show r.box.2.length ≤ _; omega, (show (-9223372036854775808 : Int) ≤ 0 by decide), (show (0 : Int) ≤ 9223372036854775807 by decide)⟩
      show (lnJoin [_]).length ≤ _
      omega
    · split
      · have := cmSend_len (x := ⟨5, [], ([], []), 0, false⟩) ⟨by simp, by simp, by simp, by decide, by decide⟩
        show (lnJoin [_]).length ≤ _
        omega
      · exact hq _
  unfold Cl.take
  split
  · exact hn _ fun r hr => by
      obtain ⟨r0, h0, e⟩ := (modify_like C (classC code) (C.at_ + 1)).box r hr
      rw [e]
      exact h.bx r0 h0
  split
  · split
    · have h1 := lnSplit_fit (s := C.body) (by omega)
      have h2 := lnStuf0_len (lnSplit C.body).1 h1.2
      have h3 : (lnSplit C.body).1.length ≤ 4100 := by
        have hsf := split_facts C.body crlf
        unfold lnSplit
        rw [List.length_dropLast]
        omega
      show (lnStuff _).length ≤ _
      rw [lnStuff_eq, List.length_append]
      have h4 : (lnSplit C.body).1.length * 1000003 ≤ 4100 * 1000003 := Nat.mul_le_mul_right _ h3
      simp
      omega
    · exact hf _ _ _
  split
  · exact hf _ _ _
  split
  · simp
  · unfold Cl.opening
    split
    · exact hg _ _
    split
    · exact hm _ (by omega) (by omega)
    split
    · exact hg _ _
    split
    · exact hq _
    split
    · exact hm _ (by decide) (by decide)
    split
    · exact hn _ h.bx
    · exact hf _ _ _
theorem lnJoin_one_ne (x : Bs) : lnJoin [x] ≠ [] := by simp [lnJoin]
/-- The first reply is answered by something. -/
theorem take_says {C : Cl} (_h : C.Ok) (h0 : C.phase = 0) (code : Int) : (C.take code).2 ≠ [] := by
  have hq : ∀ D : Cl, D.leave.2 ≠ [] := fun D => lnJoin_one_ne _
  unfold Cl.take
  rw [if_neg (by omega), if_neg (by omega), if_neg (by omega), if_neg (by omega)]
  unfold Cl.opening
  split
  · exact lnJoin_one_ne _
  rw [if_neg (by omega), if_neg (by omega), if_neg (by omega), if_neg (by omega), if_neg (by omega)]
  exact hq _
/-- A slice value that holds numbers, only read. -/
def IxAt (w : World) (v : Value) (l : List Int) : Prop := ∃ a cap, v = .slice a l.length cap ∧ (l = [] ∨ ∃ b off, a = some ⟨b, off, none⟩ ∧ ∀ i, (h : i < l.length) → w.cell? ⟨b, off + i, none⟩ = some (.int .i64 l[i]))
theorem IxAt.ext {w w2 : World} {v : Value} {l : List Int} (h : IxAt w v l) (hx : Ext [] w w2) : IxAt w2 v l := by
  obtain ⟨a, cap, h1, h2⟩ := h
  refine ⟨a, cap, h1, ?_⟩
  rcases h2 with h2 | ⟨b, off, h2, h3⟩
  · exact .inl h2
  · exact .inr ⟨b, off, h2, fun i hi => hx.cell (h3 i hi) (by simp)⟩
theorem IxAt.form {w : World} {v : Value} {l : List Int} (h : IxAt w v l) : ∃ a cap, v = .slice a l.length cap := by
  obtain ⟨a, cap, h1, _⟩ := h
  exact ⟨a, cap, h1⟩
theorem IxAt.at {w : World} {a : Option Addr} {n cap : Nat} {l : List Int} (h : IxAt w (.slice a n cap) l) {i : Nat} (hi : i < l.length) : ∃ b off, a = some ⟨b, off, none⟩ ∧ w.cell? ⟨b, off + i, none⟩ = some (.int .i64 l[i]) := by
  obtain ⟨a2, cap2, h1, h2⟩ := h
  cases h1
  rcases h2 with rfl | ⟨b, off, rfl, h3⟩
  · cases hi
  · exact ⟨b, off, rfl, h3 i hi⟩
section
variable {w0 w : World} {L : List Res} {F0 : List Nat} {p b : Nat} {v : Value} {C : Cl}
theorem clTakeB (code : Int) (hc1 : -9223372036854775808 ≤ code) (hc2 : code ≤ 9223372036854775807) (K : C.Ok) {B : Res} (S : Sp w0 [] w (B :: clR p C v L)) (E : Env w0) : Calls Tryz.prog 55 #[.pointer (some ⟨p, 0, none⟩), .int .i64 code] w fun e w2 => e = .returned (.string ⟨(C.take code).2.toArray⟩) ∧ Sp w0 [] w2 (B :: clR p (C.take code).1 v L) :=
  (clTakeS (L := B :: L) code hc1 hc2 K ((Sp.pick [_, _, _] [1, 2, 0] (by decide) (S))) E).mono fun e w2 h => ⟨h.1, (Sp.pick [_, _, _] [2, 0, 1] (by decide) (h.2))⟩
set_option maxRecDepth 100000 in
set_option maxHeartbeats 4000000 in
theorem clPlayS (cv : Value) (codes : List Int) (hcd : ∀ c ∈ codes, -9223372036854775808 ≤ c ∧ c ≤ 9223372036854775807) (hcl : codes.length ≤ 9223372036854775807) (K : C.Ok) (h0 : C.phase = 0) (T : ∀ wx, Sp w0 [] wx L → IxAt wx cv codes) (S : Sp w0 [] w (clR p C v L)) (E : Env w0) :
    Calls Tryz.prog 54 #[.pointer (some ⟨p, 0, none⟩), cv] w fun e w2 => e = .returned (.string ⟨(C.play codes).2.toArray⟩) ∧ Sp w0 [] w2 (clR p (C.play codes).1 v L) := by
  have HE := Lib.hid E
  have HCD := Lib.hid hcd
  have HT := Lib.hid T
  obtain ⟨a, cap, rfl⟩ := (T w S.drop.drop).form
  have hln : (codes.length : Int) ≤ 9223372036854775807 := by omega
  have HSB := Lib.hid (S.box #[.pointer none, .slice none 0 0] 119)
  have HS0 := Lib.hid (S.bldNew 119)
  have HK := Lib.hid K
  clear S T E hcd hcl K
  by_cases hcn : codes = []
  · subst hcn
    have HV : Hid (C.play [] = ({ C with phase := 8 }, [])) := rfl
    go_enter Tryz.func54, Tryz.ntmps54
    go_wp2_with fail
    generalize w.heap.size = q at *
    go_loopw [13] (fun i wr => i = .int .i64 0 ∧ Sp w0 [] wr (boxR q #[.pointer none, .slice none 0 0] 119 :: clR p C v L)) (fun i _ => 0)
    case atStart => exact ⟨rfl, HSB.out⟩
    case round =>
      clear HS0 HSB
      obtain ⟨rfl, S⟩ := hrel
      have HS := Lib.hid S
      clear S
      go_wp2_with fail
      refine (clLoseS (C := C) ((Sp.pick [_, _, _] [1, 0, 2] (by decide) (HS.out)))).mono ?_
      rintro e w2 ⟨rfl, S⟩
      have HS2 := Lib.hid ((Sp.pick [_, _, _] [1, 0, 2] (by decide) (S)))
      clear S HS
      go_wp2_with fail
      refine (Any.Builder_String_nil Tryz.lays169 Tryz.Builder_Extra_169 w2.heap.size q (.pointer none) w2 HS2.out.boxed).mono ?_
      rintro e w3 ⟨rfl, hb⟩
      have HS3 := Lib.hid (HS2.out.ext0 (Ext.of_below hb)).drop
      clear hb HS2
      go_wp2
      go_ret
      rw [HV.out]
      exact ⟨rfl, HS3.out⟩
  have HCP : Hid (0 < codes.length) := List.length_pos_iff.2 hcn
  have HP0 := Lib.hid h0
  clear hcn HSB h0
  go_enter Tryz.func54, Tryz.ntmps54
  go_wp2_with fail
  generalize w.heap.size = q at *
  go_loopw [13] (fun i wr => ∃ (k : Nat) (D : Cl) (out : Bs), i = .int .i64 k ∧ k ≤ codes.length ∧ D.Ok ∧ ((k = 0 ∧ D = C) ∨ out ≠ []) ∧ out.length ≤ D.rank * 5000000000 ∧ C.play codes = ((D.play (codes.drop k)).1, out ++ (D.play (codes.drop k)).2) ∧ Sp w0 [] wr (bldW 119 q out :: clR p D v L)) (fun i _ => codes.length - (intOf i).toNat)
  case atStart => exact ⟨0, C, [], rfl, Nat.zero_le _, HK.out, .inl ⟨rfl, rfl⟩, by simp, by simp, HS0.out⟩
  case round =>
    clear HS0
    obtain ⟨k, D, out, rfl, hk, hok, hne, hout, hpl, S⟩ := hrel
    have HS := Lib.hid S
    have HOK := Lib.hid hok
    have HOUT := Lib.hid hout
    have HPL := Lib.hid hpl
    have HNE := Lib.hid hne
    have HT1 := Lib.hid (HT.out wr S.drop.drop.drop)
    clear S hok hout hpl hne
    by_cases hlt : k < codes.length
    · have hlt' : (k : Int) < codes.length := by omega
      obtain ⟨b, off, rfl, k0⟩ := HT1.out.at hlt
      have HCB := Lib.hid (HCD.out _ (List.getElem_mem hlt))
      have HDR : Hid (codes.drop k = codes[k] :: codes.drop (k + 1)) := List.drop_eq_getElem_cons hlt
      rw [HDR.out] at HPL
      generalize codes[k] = c at *
      go_wp2_with fail
      refine (clOver_any (C := D) ((Sp.pick [_, _, _] [1, 0, 2] (by decide) (HS.out)))).mono ?_
      cases h8 : D.phase == 8 with
      | true =>
        have h8' : D.phase = 8 := by simpa using h8
        have HV : Hid (C.play codes = ({ D with phase := 8 }, out)) := by
          unfold Hid
          rw [HPL.out]
          show ((Cl.play D (c :: codes.drop (k + 1))).1, out ++ (Cl.play D (c :: codes.drop (k + 1))).2) = _
          unfold Cl.play
          rw [if_pos h8', List.append_nil]
        have HON : Hid (out ≠ []) := by
          rcases HNE.out with ⟨_, rfl⟩ | h
          · rw [HP0.out] at h8'; exact absurd h8' (by decide)
          · exact h
        clear h8 h8'
        rintro e wq ⟨rfl, rfl⟩
        clear k0
        go_wp2_with fail
        refine (clLoseS (C := D) ((Sp.pick [_, _, _] [1, 0, 2] (by decide) (HS.out)))).mono ?_
        rintro e w2 ⟨rfl, S⟩
        have HS2 := Lib.hid ((Sp.pick [_, _, _] [1, 0, 2] (by decide) (S)))
        clear S HS
        go_wp2_with fail
        refine (stringS HS2.out HON.out).mono ?_
        rintro e w3 ⟨rfl, S⟩
        have HS3 := Lib.hid S
        clear S HS2
        go_wp2
        go_ret
        rw [HV.out]
        exact ⟨rfl, HS3.out⟩
      | false =>
        have h8' : ¬ D.phase = 8 := by simpa using h8
        have HRL := Lib.hid (rank_lt HOK.out h8' c)
        have HOK2 := Lib.hid (take_goes HOK.out c).1
        have HLEN := Lib.hid (take_len HOK.out c)
        have HRK := Lib.hid (rank_le HOK.out)
        have HPL2 : Hid (C.play codes = (((D.take c).1.play (codes.drop (k + 1))).1, (out ++ (D.take c).2) ++ ((D.take c).1.play (codes.drop (k + 1))).2)) := by
          unfold Hid
          rw [HPL.out]
          show ((Cl.play D (c :: codes.drop (k + 1))).1, out ++ (Cl.play D (c :: codes.drop (k + 1))).2) = _
          conv => lhs; unfold Cl.play
          rw [if_neg h8', List.append_assoc]
        have HON : Hid (out ++ (D.take c).2 ≠ []) := by
          rcases HNE.out with ⟨_, rfl⟩ | h
          · have := take_says HOK.out HP0.out c
            intro e
            exact this (List.append_eq_nil_iff.1 e).2
          · exact fun e => h (List.append_eq_nil_iff.1 e).1
        clear h8 h8'
        rintro e wq ⟨rfl, rfl⟩
        have HTK := Lib.hid (clTakeB (C := D) c HCB.out.1 HCB.out.2 HOK.out HS.out HE.out)
        clear HPL
        generalize hq : D.take c = t at *
        have HQ := Lib.hid hq
        clear hq
        obtain ⟨D2, s⟩ := t
        dsimp only at *
        go_wp2_with fail
        refine HTK.out.mono ?_
        rintro e w3 ⟨rfl, S⟩
        have HS3 := Lib.hid S
        clear S k0 HTK
        go_wp2_with fail
        refine (writeStrS s HS3.out (by have := HOUT.out; have := HRK.out; have := HLEN.out; have h2 : D.rank * 5000000000 ≤ 17 * 5000000000 := Nat.mul_le_mul_right _ HRK.out; omega)).mono ?_
        rintro e w4 ⟨rfl, S⟩
        have HS4 := Lib.hid S
        clear S HS3
        go_wp2
        go_roundw
        case rel => exact ⟨k + 1, D2, out ++ s, by go_num, by omega, HOK2.out, .inr HON.out, by
          have h1 := HOUT.out
          have h2 := HLEN.out
          have h3 : (D.rank + 1) * 5000000000 ≤ D2.rank * 5000000000 := Nat.mul_le_mul_right _ HRL.out
          rw [List.length_append]
          omega, HPL2.out, HS4.out⟩
        case measure => simp [intOf]; omega
    · obtain rfl : k = codes.length := by omega
      have HV : Hid (C.play codes = ({ D with phase := 8 }, out)) := by
        unfold Hid
        rw [HPL.out, List.drop_of_length_le (Nat.le_refl _)]
        show ({ D with phase := 8 }, out ++ []) = _
        rw [List.append_nil]
      have HON : Hid (out ≠ []) := by
        rcases HNE.out with ⟨h, _⟩ | h
        · have := HCP.out; omega
        · exact h
      go_wp2_with fail
      refine (clLoseS (C := D) ((Sp.pick [_, _, _] [1, 0, 2] (by decide) (HS.out)))).mono ?_
      rintro e w2 ⟨rfl, S⟩
      have HS2 := Lib.hid ((Sp.pick [_, _, _] [1, 0, 2] (by decide) (S)))
      clear S HS
      go_wp2_with fail
      refine (stringS HS2.out HON.out).mono ?_
      rintro e w3 ⟨rfl, S⟩
      have HS3 := Lib.hid S
      clear S HS2
      go_wp2
      go_ret
      rw [HV.out]
      exact ⟨rfl, HS3.out⟩
end
end Go.Proofs.YtapenolbbofjkaaGreatDoor

/-! Aw22 -/
namespace Go.Proofs.YtapenolbbofjkaaGreatDoor
open Go.RowKit

theorem infoBox : (Tryz.prog.info? 37).map (fun i => (i.zero, i.size, i.bytes)) = some (some (.agg #[.string ⟨#[]⟩, .string ⟨#[]⟩]), 2, 32) := by kernel_rfl
abbrev bxsR (v : Value) (l : List Mb) : Res := rowR 37 2 v l.length (l.map Mb.vals).flatten
theorem mbVals_lenX (l : List Mb) : ∀ x ∈ l.map Mb.vals, x.length = 2 := fun x hx => by
  obtain ⟨r, _, rfl⟩ := List.mem_map.1 hx
  rfl
def some2 : List Mb := [([120], [99]), ([121], [99])]
section
variable {w0 w : World} {L : List Res} {F0 : List Nat} {p b : Nat} {v : Value} {C : Cl}
theorem Sp.bxAt {l : List Mb} (S : Sp w0 F0 w (bxsR v l :: L)) : BxAt w v l := by
  rcases S.rowForm with ⟨rfl, h⟩ | ⟨g, cap, rfl⟩
  · have : l = [] := List.eq_nil_of_length_eq_zero h
    subst this
    exact ⟨none, 0, rfl, .inl rfl⟩
  · refine ⟨_, cap, rfl, .inr ⟨g, 0, rfl, fun i r hr j u hu => ?_⟩⟩
    rw [Nat.zero_add]
    exact S.rowCell (mbVals_lenX l) hr hu
theorem Sp.ixAt {l : List Int} (S : Sp w0 F0 w (intsR v l :: L)) : IxAt w v l := by
  rcases S.rowForm with ⟨rfl, h⟩ | ⟨g, cap, rfl⟩
  · have : l = [] := List.eq_nil_of_length_eq_zero h
    subst this
    exact ⟨none, 0, rfl, .inl rfl⟩
  · refine ⟨_, cap, rfl, .inr ⟨g, 0, rfl, fun i hi => ?_⟩⟩
    have h := S.row.cells (g := g) rfl i (.int .i64 l[i]) (by rw [List.getElem?_map, List.getElem?_eq_getElem hi]; rfl)
    have hadd : (⟨g, 0, none⟩ : Addr).add i = ⟨g, 0 + i, none⟩ := by unfold Addr.add; split <;> simp_all
    rw [hadd] at h
    exact h
set_option maxRecDepth 100000 in
theorem someS (S : Sp w0 F0 w L) : Calls Tryz.prog 53 #[] w fun e w2 => ∃ g, e = .returned (.slice (some ⟨g, 0, none⟩) 2 2) ∧ Sp w0 F0 w2 (bxsR (.slice (some ⟨g, 0, none⟩) 2 2) some2 :: L) := by
  have HS := Lib.hid (S.rowLaid 37 2 2 (some2.map Mb.vals).flatten rfl (by decide))
  clear S
  go_enter Tryz.func53, Tryz.ntmps53
  go_wp2
  go_ret
  exact ⟨_, rfl, HS.out⟩
def aw1 : Cl := ⟨[104, 46, 120], ([], []), some2.map rc0, [46, 97, 13, 10], 0, 0⟩
def aw2 : Cl := ⟨[104, 46, 120], ([], []), some2.map rc0, [], 0, 0⟩
theorem aw1_new : clNew [104, 46, 120] ([], []) some2 [46, 97, 13, 10] = (some aw1, 0) := by kernel_rfl
theorem aw2_new : clNew [104, 46, 120] ([], []) some2 [] = (some aw2, 0) := by kernel_rfl
theorem aw3_new : clNew [104, 46, 120] ([], []) [] [] = (none, 1) := by kernel_rfl
theorem aw4_new : clNew [104, 46, 120] ([], []) some2 [120] = (none, 2) := by kernel_rfl
def awCodes : List Int := [220, 250, 250, 250, 550, 354, 250, 221]
def awText : Bs := [69, 72, 76, 79, 32, 104, 46, 120, 13, 10, 77, 65, 73, 76, 32, 70, 82, 79, 77, 58, 60, 62, 32, 83, 73, 90, 69, 61, 52, 13, 10, 82, 67, 80, 84, 32, 84, 79, 58, 60, 120, 64, 99, 62, 13, 10, 82, 67, 80, 84, 32, 84, 79, 58, 60, 121, 64, 99, 62, 13, 10, 68, 65, 84, 65, 13, 10, 46, 46, 97, 13, 10, 46, 13, 10, 81, 85, 73, 84, 13, 10]
set_option maxRecDepth 100000 in
theorem aw1_play : (aw1.play awCodes).2 = awText ∧ (aw1.play awCodes).1.tos.map Rc.state = [1, 2] ∧ (aw1.play awCodes).1.phase = 8 := by decide +kernel
def aw2a : Cl := (aw2.take 220).1
def aw2b : Cl := (aw2a.take 500).1
def aw2c : Cl := (aw2b.take 250).1
def aw2d : Cl := (aw2c.take 451).1
theorem aw2_says : (aw2.take 220).2 = [69, 72, 76, 79, 32, 104, 46, 120, 13, 10] ∧ (aw2a.take 500).2 = [72, 69, 76, 79, 32, 104, 46, 120, 13, 10] ∧ (aw2b.take 250).2 = [77, 65, 73, 76, 32, 70, 82, 79, 77, 58, 60, 62, 13, 10] ∧ (aw2c.take 451).2 = [81, 85, 73, 84, 13, 10] ∧ aw2d.phase = 7 ∧ aw2d.tos.map Rc.state = [0, 0] := by decide +kernel
theorem aw1_ok : aw1.Ok := (clNew_ok aw1_new (by decide) (by decide) (by decide) (by decide) (by decide)).1
theorem aw2_ok : aw2.Ok := (clNew_ok aw2_new (by decide) (by decide) (by decide) (by decide) (by decide)).1
theorem aw2a_ok : aw2a.Ok := (take_goes aw2_ok 220).1
theorem aw2b_ok : aw2b.Ok := (take_goes aw2a_ok 500).1
theorem aw2c_ok : aw2c.Ok := (take_goes aw2b_ok 250).1
set_option maxRecDepth 100000 in
set_option maxHeartbeats 8000000 in
theorem awake22S (S : Sp w0 [] w L) (E : Env w0) : Calls Tryz.prog 26 #[] w fun e w2 => e = .returned (.bool true) ∧ Sp w0 [] w2 L := by
  have HS0 := Lib.hid S
  have HE := Lib.hid E
  clear S E
  go_enter Tryz.func26, Tryz.ntmps26
  go_wp2_with fail
  refine (someS HS0.out).mono ?_
  rintro e w1 ⟨g1, rfl, S⟩
  have HS1 := Lib.hid S
  clear S HS0
  go_wp2_with fail
  refine (clNewS [104, 46, 120] ([], []) _ some2 [46, 97, 13, 10] (by decide) (by decide) (by decide) (by decide) (by decide) (by decide) HE.out HS1.out.bxAt HS1.out).mono ?_
  rw [aw1_new]
  rintro e w2 ⟨p1, v1, rfl, S⟩
  have HS2 := Lib.hid ((Sp.pick [_, _, _] [0, 1] (by decide) (S)))
  clear S HS1
  go_wp2_with fail
  refine (someS HS2.out).mono ?_
  rintro e w3 ⟨g3, rfl, S⟩
  have HS3 := Lib.hid S
  clear S HS2
  go_wp2_with fail
  refine (clNewS [104, 46, 120] ([], []) _ some2 [] (by decide) (by decide) (by decide) (by decide) (by decide) (by decide) HE.out HS3.out.bxAt HS3.out).mono ?_
  rw [aw2_new]
  rintro e w4 ⟨p2, v2, rfl, S⟩
  have HS4 := Lib.hid ((Sp.pick [_, _, _, _, _] [0, 1, 3, 4] (by decide) (S)))
  clear S HS3
  go_wp2_with fail
  refine (clNewS [104, 46, 120] ([], []) (.slice none 0 0) [] [] (by decide) (by decide) (by decide) (by decide) (by decide) (by decide) HE.out ⟨none, 0, rfl, .inl rfl⟩ HS4.out).mono ?_
  rw [aw3_new]
  rintro e w5 ⟨rfl, S⟩
  have HS5 := Lib.hid S
  clear S HS4
  go_wp2_with fail
  refine (someS HS5.out).mono ?_
  rintro e w6 ⟨g6, rfl, S⟩
  have HS6 := Lib.hid S
  clear S HS5
  go_wp2_with fail
  refine (clNewS [104, 46, 120] ([], []) _ some2 [120] (by decide) (by decide) (by decide) (by decide) (by decide) (by decide) HE.out HS6.out.bxAt HS6.out).mono ?_
  rw [aw4_new]
  rintro e w7 ⟨rfl, S⟩
  have HS7 := Lib.hid (S.drop.rowLaid 3 1 8 (awCodes.map fun z => .int .i64 z) rfl (by decide))
  clear S HS6
  go_wp2_with fail
  have HS8 : Hid (Sp w0 [] _ (clR p1 aw1 v1 (intsR (.slice (some ⟨w7.heap.size, 0, none⟩) 8 8) awCodes :: clB p2 aw2 v2 :: rcsR v2 aw2.tos :: L))) := Lib.hid ((Sp.pick [_, _, _, _, _] [3, 4, 0, 1, 2] (by decide) (HS7.out)))
  refine (clPlayS (.slice (some ⟨w7.heap.size, 0, none⟩) 8 8) awCodes (by decide) (by decide) aw1_ok rfl (fun wx h => h.ixAt) HS8.out HE.out).mono ?_
  rw [aw1_play.1]
  have HST1 : Hid ((aw1.play awCodes).1.tos.map Rc.state = [1, 2]) := aw1_play.2.1
  have HPH1 : Hid ((aw1.play awCodes).1.phase = 8) := aw1_play.2.2
  generalize (aw1.play awCodes).1 = D1 at *
  generalize w7.heap.size = gq at *
  rintro e w8 ⟨rfl, S⟩
  have HS9 := Lib.hid S
  clear S HS7 HS8
  unfold awText
  go_wp2_with fail
  refine (clStatesS (C := D1) (by have := congrArg List.length HST1.out; simp at this; omega) HS9.out).mono ?_
  rw [HST1.out]
  rintro e w9 ⟨v3, rfl, S⟩
  have HS10 := Lib.hid S
  obtain ⟨a3, cap3, rfl⟩ := S.ixAt.form
  have HX3 := Lib.hid S.ixAt
  clear S HS9
  go_wp2_with fail
  refine (clTakeS (C := aw2) (v := v2) 220 (by decide) (by decide) aw2_ok ((Sp.pick [_, _, _, _, _, _] [4, 5, 0, 1, 2, 3] (by decide) (HS10.out))) HE.out).mono ?_
  rintro e w11 ⟨he, S⟩
  rw [aw2_says.1] at he
  subst he
  have HS11 : Hid (Sp w0 [] w11 (clR p2 aw2a v2 (intsR (.slice a3 2 cap3) [1, 2] :: clR p1 D1 v1 (intsR (.slice (some ⟨gq, 0, none⟩) 8 8) awCodes :: L)))) := Lib.hid S
  clear S HS10
  go_wp2_with fail
  refine (clTakeS (C := aw2a) (v := v2) 500 (by decide) (by decide) aw2a_ok HS11.out HE.out).mono ?_
  rintro e w12 ⟨he, S⟩
  rw [aw2_says.2.1] at he
  subst he
  have HS12 : Hid (Sp w0 [] w12 (clR p2 aw2b v2 (intsR (.slice a3 2 cap3) [1, 2] :: clR p1 D1 v1 (intsR (.slice (some ⟨gq, 0, none⟩) 8 8) awCodes :: L)))) := Lib.hid S
  clear S HS11
  have a1 : ∀ W, (Op.stringOp .add ⟨#[69, 72, 76, 79, 32, 104, 46, 120, 13, 10]⟩ ⟨#[72, 69, 76, 79, 32, 104, 46, 120, 13, 10]⟩).run Tryz.prog W = .ok (.string ⟨#[69, 72, 76, 79, 32, 104, 46, 120, 13, 10, 72, 69, 76, 79, 32, 104, 46, 120, 13, 10]⟩) W := fun W => add_str [69, 72, 76, 79, 32, 104, 46, 120, 13, 10] [72, 69, 76, 79, 32, 104, 46, 120, 13, 10] (by decide) W
  go_wp2_with fail
  refine (clTakeS (C := aw2b) (v := v2) 250 (by decide) (by decide) aw2b_ok HS12.out HE.out).mono ?_
  rintro e w13 ⟨he, S⟩
  rw [aw2_says.2.2.1] at he
  subst he
  have HS13 : Hid (Sp w0 [] w13 (clR p2 aw2c v2 (intsR (.slice a3 2 cap3) [1, 2] :: clR p1 D1 v1 (intsR (.slice (some ⟨gq, 0, none⟩) 8 8) awCodes :: L)))) := Lib.hid S
  clear S HS12
  have a2 : ∀ W, (Op.stringOp .add ⟨#[69, 72, 76, 79, 32, 104, 46, 120, 13, 10, 72, 69, 76, 79, 32, 104, 46, 120, 13, 10]⟩ ⟨#[77, 65, 73, 76, 32, 70, 82, 79, 77, 58, 60, 62, 13, 10]⟩).run Tryz.prog W = .ok (.string ⟨#[69, 72, 76, 79, 32, 104, 46, 120, 13, 10, 72, 69, 76, 79, 32, 104, 46, 120, 13, 10, 77, 65, 73, 76, 32, 70, 82, 79, 77, 58, 60, 62, 13, 10]⟩) W := fun W => add_str [69, 72, 76, 79, 32, 104, 46, 120, 13, 10, 72, 69, 76, 79, 32, 104, 46, 120, 13, 10] [77, 65, 73, 76, 32, 70, 82, 79, 77, 58, 60, 62, 13, 10] (by decide) W
  go_wp2_with fail
  refine (clTakeS (C := aw2c) (v := v2) 451 (by decide) (by decide) aw2c_ok HS13.out HE.out).mono ?_
  rintro e w14 ⟨he, S⟩
  rw [aw2_says.2.2.2.1] at he
  subst he
  have HS14 : Hid (Sp w0 [] w14 (clR p2 aw2d v2 (intsR (.slice a3 2 cap3) [1, 2] :: clR p1 D1 v1 (intsR (.slice (some ⟨gq, 0, none⟩) 8 8) awCodes :: L)))) := Lib.hid S
  clear S HS13
  have a3s : ∀ W, (Op.stringOp .add ⟨#[69, 72, 76, 79, 32, 104, 46, 120, 13, 10, 72, 69, 76, 79, 32, 104, 46, 120, 13, 10, 77, 65, 73, 76, 32, 70, 82, 79, 77, 58, 60, 62, 13, 10]⟩ ⟨#[81, 85, 73, 84, 13, 10]⟩).run Tryz.prog W = .ok (.string ⟨#[69, 72, 76, 79, 32, 104, 46, 120, 13, 10, 72, 69, 76, 79, 32, 104, 46, 120, 13, 10, 77, 65, 73, 76, 32, 70, 82, 79, 77, 58, 60, 62, 13, 10, 81, 85, 73, 84, 13, 10]⟩) W := fun W => add_str [69, 72, 76, 79, 32, 104, 46, 120, 13, 10, 72, 69, 76, 79, 32, 104, 46, 120, 13, 10, 77, 65, 73, 76, 32, 70, 82, 79, 77, 58, 60, 62, 13, 10] [81, 85, 73, 84, 13, 10] (by decide) W
  have HPH2 : Hid (aw2d.phase = 7) := aw2_says.2.2.2.2.1
  have HST2 : Hid (aw2d.tos.map Rc.state = [0, 0]) := aw2_says.2.2.2.2.2
  generalize aw2d = D2 at *
  go_wp2_with fail
  refine (clPhase_any (C := D2) HS14.out).mono ?_
  rw [HPH2.out]
  rintro e wq ⟨rfl, rfl⟩
  go_wp2_with fail
  refine (clLoseS (C := D2) HS14.out).mono ?_
  rintro e w15 ⟨rfl, S⟩
  have HS15 : Hid (Sp w0 [] w15 (clR p2 { D2 with phase := 8 } v2 (intsR (.slice a3 2 cap3) [1, 2] :: clR p1 D1 v1 (intsR (.slice (some ⟨gq, 0, none⟩) 8 8) awCodes :: L)))) := Lib.hid S
  clear S HS14
  go_wp2_with fail
  refine (clStatesS (C := { D2 with phase := 8 }) (by have := congrArg List.length HST2.out; simp at this; show D2.tos.length ≤ _; omega) HS15.out).mono ?_
  rw [show ({ D2 with phase := 8 } : Cl).tos.map Rc.state = [0, 0] from HST2.out]
  rintro e w16 ⟨v4, rfl, S⟩
  obtain ⟨a4, cap4, rfl⟩ := S.ixAt.form
  have HX4 := S.ixAt
  have HX3 := ((Sp.pick [_, _, _, _] [3, 0, 1, 2] (by decide) (S))).ixAt
  have HS16 := Lib.hid S
  clear S HS15
  obtain ⟨b4, o4, rfl, y0⟩ := HX4.at (i := 0) (by decide)
  obtain ⟨b3, o3, rfl, x0⟩ := HX3.at (i := 0) (by decide)
  have x1 : w16.cell? ⟨b3, o3 + 1, none⟩ = some (.int .i64 2) := by
    obtain ⟨b, o, e, h⟩ := HX3.at (i := 1) (by decide)
    cases e
    exact h
  have x0' : w16.cell? ⟨b3, o3, none⟩ = some (.int .i64 1) := x0
  have y0' : w16.cell? ⟨b4, o4, none⟩ = some (.int .i64 0) := y0
  clear HX3 HX4 x0 y0
  go_wp2_with fail
  refine (clOver_any (C := D1) ((Sp.pick [_, _, _, _, _, _] [4, 0, 1, 2, 3, 5] (by decide) (HS16.out)))).mono ?_
  rw [HPH1.out]
  rintro e wq ⟨rfl, rfl⟩
  go_wp2_with fail
  refine (clOver_any (C := { D2 with phase := 8 }) ((Sp.pick [_, _, _, _, _, _] [1, 0, 2, 3, 4, 5] (by decide) (HS16.out)))).mono ?_
  rintro e wq ⟨rfl, rfl⟩
  go_wp2
  go_ret
  exact ⟨rfl, ((Sp.pick [_, _, _, _, _, _, _] [] (by decide) (HS16.out)))⟩
end
end Go.Proofs.YtapenolbbofjkaaGreatDoor

/-! Lw22 -/
namespace Go.Proofs.YtapenolbbofjkaaGreatDoor
open Go.RowKit

section
variable {w0 w : World} {L : List Res} {F0 : List Nat} {p b : Nat} {v v2 : Value} {C : Cl}
set_option maxRecDepth 100000 in
set_option maxHeartbeats 1000000 in
theorem same22_any (l m : List Int) (T : IxAt w v l) (T2 : IxAt w v2 m) (hl : l.length ≤ 1000000) : Calls Tryz.prog 31 #[v, v2] w fun e w2 => e = .returned (.bool (decide (l = m))) ∧ ∃ q, w2 = w.drewN q := by
  have HT := Lib.hid T
  have HT2 := Lib.hid T2
  obtain ⟨a, cap, rfl⟩ := T.form
  obtain ⟨a2, cap2, rfl⟩ := T2.form
  clear T T2
  have hl' : (l.length : Int) ≤ 1000000 := by omega
  by_cases hlen : l.length = m.length
  · have hle : ((l.length : Int) != (m.length : Int)) = false := by simp [hlen]
    go_enter Tryz.func31, Tryz.ntmps31
    go_wp2_with fail
    go_loopw [13] (fun i wr => ∃ k q : Nat, i = .int .i64 k ∧ k ≤ l.length ∧ l.take k = m.take k ∧ wr = w.drewN q) (fun i _ => l.length - (intOf i).toNat)
    case atStart => exact ⟨0, 0, rfl, Nat.zero_le _, rfl, rfl⟩
    case round =>
      obtain ⟨k, q, rfl, hk, heq, rfl⟩ := hrel
      have HQ := Lib.hid heq
      clear heq
      by_cases hlt : k < l.length
      · have hlt' : (k : Int) < l.length := by omega
        have hltm : (k : Int) < m.length := by omega
        obtain ⟨b, off, rfl, ck⟩ := HT.out.at hlt
        obtain ⟨b2, off2, rfl, dk⟩ := HT2.out.at (i := k) (by omega)
        have HS1 : Hid (l.take (k + 1) = l.take k ++ [l[k]]) := List.take_succ_eq_append_getElem hlt
        have HS2 : Hid (m.take (k + 1) = m.take k ++ [m[k]]) := List.take_succ_eq_append_getElem (by omega)
        have HNE : Hid (l[k] ≠ m[k] → l ≠ m) := fun h e => h (by subst e; rfl)
        generalize l[k] = x at *
        generalize m[k] = y at *
        by_cases hxy : x = y
        · subst hxy
          go_wp2_with fail
          go_region
          go_wp2
          go_roundw
          case rel => exact ⟨k + 1, q + 1, by go_num, by omega, by rw [HS1.out, HS2.out, HQ.out], rfl⟩
          case measure => simp [intOf]; omega
        · have HV : Hid (decide (l = m) = false) := decide_eq_false (HNE.out hxy)
          have hb : (x != y) = true := by simpa using hxy
          go_wp2_with fail
          go_region
          go_wp2
          go_ret
          exact ⟨ret_bool HV.out.symm, q + 1, rfl⟩
      · have HV : Hid (decide (l = m) = true) := by
          have := HQ.out
          rw [List.take_of_length_le (by omega), List.take_of_length_le (by omega)] at this
          exact decide_eq_true this
        go_wp2
        go_ret
        exact ⟨ret_bool HV.out.symm, q, rfl⟩
  · have hle : ((l.length : Int) != (m.length : Int)) = true := by simpa using fun h => hlen (by omega)
    have HV : Hid (decide (l = m) = false) := decide_eq_false fun e => hlen (by rw [e])
    clear hlen
    go_enter Tryz.func31, Tryz.ntmps31
    go_wp2
    go_ret
    exact ⟨ret_bool HV.out.symm, 0, rfl⟩
/-- Fits what is to be given away? -/
def fit22 (host : Bs) (fr : Mb) (to_ : List Mb) (body : Bs) : Prop := host.length ≤ 300 ∧ fr.1.length ≤ 300 ∧ fr.2.length ≤ 300 ∧ to_.length ≤ 30 ∧ body.length ≤ 4096 ∧ ∀ b ∈ to_, b.1.length ≤ 300 ∧ b.2.length ≤ 300
set_option maxRecDepth 100000 in
set_option maxHeartbeats 2000000 in
theorem large22_any (host : Bs) (fr : Mb) (to_ : List Mb) (body : Bs) (hh : host.length ≤ maxLen) (h1 : fr.1.length ≤ maxLen) (h2 : fr.2.length ≤ maxLen) (hb : body.length ≤ maxLen) (hn : to_.length ≤ maxLen) (ht : ∀ b ∈ to_, b.1.length ≤ maxLen ∧ b.2.length ≤ maxLen) (T : BxAt w v to_) :
    Calls Tryz.prog 27 #[.string ⟨host.toArray⟩, mbAgg fr, v, .string ⟨body.toArray⟩] w fun e w2 => ∃ r : Bool, e = .returned (.bool r) ∧ Ext [] w w2 ∧ (r = false → fit22 host fr to_ body) := by
  have HX : Hid (Ext [] w (w.alloc (.cells (mbCells fr) 37))) := (Ext.refl [] w).alloc _
  have HT := Lib.hid (T.ext HX.out)
  obtain ⟨a, cap, rfl⟩ := T.form
  obtain ⟨fl, fd⟩ := fr
  unfold mbAgg
  unfold mbCells at *
  unfold maxLen at hh h1 h2 hb hn ht
  have HTB := Lib.hid ht
  have HF : Hid (fit22 host (fl, fd) to_ body ↔ (host.length ≤ 300 ∧ fl.length ≤ 300 ∧ fd.length ≤ 300 ∧ to_.length ≤ 30 ∧ body.length ≤ 4096 ∧ ∀ b ∈ to_, b.1.length ≤ 300 ∧ b.2.length ≤ 300)) := Iff.rfl
  dsimp only at *
  have i1 : (host.length : Int) ≤ 9223372036854775807 := by omega
  have i2 : (fl.length : Int) ≤ 9223372036854775807 := by omega
  have i3 : (fd.length : Int) ≤ 9223372036854775807 := by omega
  have i4 : (to_.length : Int) ≤ 9223372036854775807 := by omega
  have i5 : (body.length : Int) ≤ 9223372036854775807 := by omega
  clear T ht
  by_cases hg : host.length ≤ 300 ∧ fl.length ≤ 300 ∧ fd.length ≤ 300 ∧ to_.length ≤ 30 ∧ body.length ≤ 4096
  rotate_left 1
  · have hor : (300 : Int) < host.length ∨ ((host.length : Int) ≤ 300 ∧ (300 : Int) < fl.length) ∨ ((host.length : Int) ≤ 300 ∧ (fl.length : Int) ≤ 300 ∧ (300 : Int) < fd.length) ∨ ((host.length : Int) ≤ 300 ∧ (fl.length : Int) ≤ 300 ∧ (fd.length : Int) ≤ 300 ∧ (30 : Int) < to_.length) ∨ ((host.length : Int) ≤ 300 ∧ (fl.length : Int) ≤ 300 ∧ (fd.length : Int) ≤ 300 ∧ (to_.length : Int) ≤ 30 ∧ (4096 : Int) < body.length) := by omega
    clear hg hh h1 h2 hb hn
    rcases hor with k1 | ⟨k1, k2⟩ | ⟨k1, k2, k3⟩ | ⟨k1, k2, k3, k4⟩ | ⟨k1, k2, k3, k4, k5⟩
    all_goals
      go_enter Tryz.func27, Tryz.ntmps27
      go_wp2
      go_ret
      exact ⟨true, rfl, HX.out, fun h => by cases h⟩
  · have k1 : (host.length : Int) ≤ 300 := by omega
    have k2 : (fl.length : Int) ≤ 300 := by omega
    have k3 : (fd.length : Int) ≤ 300 := by omega
    have k4 : (to_.length : Int) ≤ 30 := by omega
    have k5 : (body.length : Int) ≤ 4096 := by omega
    have HG := Lib.hid hg
    clear hg hh h1 h2 hb hn i1 i2 i3 i4 i5
    go_enter Tryz.func27, Tryz.ntmps27
    go_wp2_with fail
    generalize w.alloc (.cells #[.string ⟨_⟩, .string ⟨_⟩] 37) = w1 at *
    go_loopw [37] (fun i wr => ∃ k : Nat, i = .int .i64 k ∧ k ≤ to_.length ∧ (∀ b ∈ to_.take k, b.1.length ≤ 300 ∧ b.2.length ≤ 300) ∧ w1 = wr) (fun i _ => to_.length - (intOf i).toNat)
    case atStart => exact ⟨0, rfl, Nat.zero_le _, by simp, rfl⟩
    case round =>
      obtain ⟨k, rfl, hk, hall, rfl⟩ := hrel
      have HALL := Lib.hid hall
      clear hall
      by_cases hlt : k < to_.length
      · have hlt' : (k : Int) < to_.length := by omega
        obtain ⟨b, off, rfl, c0, c1⟩ := HT.out.at hlt
        have HST : Hid (to_.take (k + 1) = to_.take k ++ [to_[k]]) := List.take_succ_eq_append_getElem hlt
        have hbl := HTB.out _ (List.getElem_mem hlt)
        generalize to_[k] = m at *
        have j1 : (m.1.length : Int) ≤ 9223372036854775807 := by omega
        have j2 : (m.2.length : Int) ≤ 9223372036854775807 := by omega
        by_cases hm : m.1.length ≤ 300 ∧ m.2.length ≤ 300
        · have m1 : (m.1.length : Int) ≤ 300 := by omega
          have m2 : (m.2.length : Int) ≤ 300 := by omega
          have HM := Lib.hid hm
          clear hm hbl j1 j2
          go_wp2
          go_roundw
          case rel => exact ⟨k + 1, by go_num, by omega, by
            rw [HST.out]
            intro b hb
            rcases List.mem_append.1 hb with h | h
            · exact HALL.out b h
            · rw [List.mem_singleton.1 h]; exact HM.out, by trivial⟩
          case measure => simp [intOf]; omega
        · have hor : (300 : Int) < m.1.length ∨ ((m.1.length : Int) ≤ 300 ∧ (300 : Int) < m.2.length) := by omega
          clear hm hbl
          rcases hor with m1 | ⟨m1, m2⟩
          all_goals
            go_wp2
            go_ret
            exact ⟨true, rfl, HX.out, fun h => by cases h⟩
      · have HA2 : Hid (∀ b ∈ to_, b.1.length ≤ 300 ∧ b.2.length ≤ 300) := by
          have := HALL.out
          rw [List.take_of_length_le (by omega)] at this
          exact this
        go_wp2
        go_ret
        exact ⟨false, rfl, HX.out, fun _ => HF.out.2 ⟨HG.out.1, HG.out.2.1, HG.out.2.2.1, HG.out.2.2.2.1, HG.out.2.2.2.2, HA2.out⟩⟩
end
end Go.Proofs.YtapenolbbofjkaaGreatDoor
