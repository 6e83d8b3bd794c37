/- The document's answer for layer 22: a client in memory; send, leave. Conditions: the lengths fit. The document's answer for layers 8 and 22: Stuff, Take. Conditions: the client is one that was made; the lengths fit. The document's answer for layer 22: Take, Play. Conditions: the client is one that was made; the lengths fit. The document's answer for layer 22: New. Conditions: the lengths fit. The document's answer for layer 22: New beside what is there, Play. Conditions: the client is one that was made; the lengths fit. -/
import Derived.Test.YtldlbiodllgflaaGreatDoorR10d
import Derived.Test.YtldlbiodllgflaaGreatDoorLw22
import Derived.Deep.DeepCutAuto
import Derived.Test.YtldlbiodllgflaaGreatDoorR08
import Derived.Test.YtldlbiodllgflaaGreatDoorClU
import Derived.Test.YtldlbiodllgflaaGreatDoorClZ
/-! R22 -/
set_option linter.unusedSimpArgs false
set_option linter.unusedVariables false
set_option linter.unnecessarySimpa false
namespace Go.Proofs.YtldlbiodllgflaaGreatDoor
open Go.RowKit

def r22Cells (C : Cl) (tv sv kv : Value) : Array Value := #[.string ⟨C.host.toArray⟩, .string ⟨C.from_.1.toArray⟩, .string ⟨C.from_.2.toArray⟩, tv, sv, kv, .string ⟨C.body.toArray⟩, .int .i64 C.phase, .int .i64 C.at_]
abbrev r22B (p : Nat) (C : Cl) (tv sv kv : Value) : Res := boxR p (r22Cells C tv sv kv) 41
abbrev rbxR (v : Value) (l : List Mb) : Res := rowR 37 2 v l.length (l.map Mb.vals).flatten
abbrev boolsR (v : Value) (l : List Bool) : Res := rowR 4 1 v l.length (l.map fun z => .bool z)
/-- The document's client in memory: its fields, mailboxes, states, who is accepted. -/
abbrev r22R (p : Nat) (C : Cl) (tv sv kv : Value) (L : List Res) : List Res := r22B p C tv sv kv :: rbxR tv (C.tos.map Rc.box) :: intsR sv (C.tos.map Rc.state) :: boolsR kv (C.tos.map Rc.acc) :: L
section
variable {w0 w : World} {F0 : List Nat} {L : List Res} {p : Nat} {tv sv kv : Value} {C : Cl}
set_option maxRecDepth 100000 in
set_option maxHeartbeats 1000000 in
theorem r22SendS (x : Cm) (ph : Int) (S : Sp w0 F0 w (r22B p C tv sv kv :: L)) (F : CmS x) :
    Calls Tryz.prog 42 #[.pointer (some ⟨p, 0, none⟩), cmAgg x, .int .i64 ph] w fun e w2 => e = .returned (.string ⟨(C.send x ph).2.toArray⟩) ∧ Sp w0 F0 w2 (r22B p (C.send x ph).1 tv sv kv :: L) := by
  have HV : Hid ((C.send x ph).2 = (cmWrite x).1 ++ [13, 10]) := by unfold Hid Cl.send; simp [lnJoin]
  have HLEN := Lib.hid F.len
  have HW := Lib.hid (fun (w' : World) (L' : List Res) (S : Sp w0 F0 w' L') => r10WriteS x S (by have := F.text; omega) (by have := F.loc; omega) (by have := F.dom; omega) F.lo F.hi)
  have HC : Hid ((r22Cells C tv sv kv).setIfInBounds 7 (.int .i64 ph) = r22Cells (C.send x ph).1 tv sv kv) := rfl
  have hps := S.boxlt
  have c0 := S.cell
  have f0 := S.free
  have HS1 := Lib.hid ((S.set (o := 7) (.int .i64 ph)).box (cmCells x) 80)
  rw [HC.out, show (w.setCell ⟨p, 7, none⟩ (.int .i64 ph)).heap.size = w.heap.size by simp] at HS1
  generalize (C.send x ph).1 = C2 at *
  obtain ⟨host, ⟨fl, fd⟩, tos, body, phase, at_⟩ := C
  obtain ⟨xv, xt, ⟨xl, xd⟩, xz, xe⟩ := x
  unfold cmAgg cmCells at *
  unfold r22Cells at c0
  dsimp only at *
  generalize cmWrite ⟨xv, xt, (xl, xd), xz, xe⟩ = q at *
  obtain ⟨s, es⟩ := q
  dsimp only at *
  have a1 := add_str s [13, 10] (by have := HLEN.out; simp [maxLen]; omega)
  clear S F HC
  go_enter Tryz.func42, Tryz.ntmps42
  have c1 := HS1.out.cell
  go_wp2_with fail
  refine (HW.out _ _ HS1.out).mono ?_
  generalize w.heap.size = b at *
  rintro e w2 ⟨rfl, S⟩
  have HS2 := Lib.hid S.drop
  clear S HS1 c0 f0 c1 HW
  go_wp2
  go_ret
  rw [HV.out]
  exact ⟨rfl, HS2.out⟩
/-- What a method hands back: a text, and the client. -/
def OutRR (w0 : World) (F0 : List Nat) (L : List Res) (p : Nat) (tv sv kv : Value) (q : Cl × Bs) (e : Ending) (w2 : World) : Prop := e = .returned (.string ⟨q.2.toArray⟩) ∧ Sp w0 F0 w2 (r22R p q.1 tv sv kv L)
set_option maxRecDepth 100000 in
theorem r22LeaveS (S : Sp w0 F0 w (r22R p C tv sv kv L)) : Calls Tryz.prog 46 #[.pointer (some ⟨p, 0, none⟩)] w (OutRR w0 F0 L p tv sv kv C.leave) := by
  have H := Lib.hid (r22SendS ⟨8, [], ([], []), 0, false⟩ 7 S ⟨by simp, by simp, by simp, by decide, by decide⟩)
  have HV : Hid (C.leave = C.send ⟨8, [], ([], []), 0, false⟩ 7 ∧ (C.send ⟨8, [], ([], []), 0, false⟩ 7).1.tos = C.tos) := ⟨rfl, rfl⟩
  unfold cmAgg at H
  dsimp only at H
  rw [HV.out.1]
  generalize C.send ⟨8, [], ([], []), 0, false⟩ 7 = q at *
  clear S
  go_enter Tryz.func46, Tryz.ntmps46
  go_wp2_with fail
  refine H.out.mono ?_
  rintro e w2 ⟨rfl, S⟩
  have HS := Lib.hid S
  clear S
  go_wp2
  go_ret
  refine ⟨rfl, ?_⟩
  unfold r22R
  rw [HV.out.2]
  exact HS.out
def setP (a : Bool) (r : Rc) : Bool := r.state == 0 && (!a || r.acc)
theorem setP_true : setP true = Rc.taken := by funext r; simp [setP, Rc.taken]
theorem setP_false : setP false = Rc.waits := by funext r; simp [setP, Rc.waits]
theorem singles (xs : List Value) : (xs.map fun x => [x]).flatten = xs := by induction xs with
  | nil => rfl
  | cons a l ih => simp [ih]
theorem Sp.cell1 {e n g cap : Nat} {xs : List Value} (S : Sp w0 F0 w (rowR e 1 (.slice (some ⟨g, 0, none⟩) n cap) n xs :: L)) {i : Nat} {u : Value} (h : xs[i]? = some u) : w.cell? ⟨g, i, none⟩ = some u := by
  rw [← singles xs] at S
  have := S.rowCell (fun x hx => by obtain ⟨y, _, rfl⟩ := List.mem_map.1 hx; rfl) (i := i) (r := [u]) (by rw [List.getElem?_map, h]; rfl) (j := 0) (u := u) rfl
  simpa using this
theorem Sp.set1 {e n g cap : Nat} {xs : List Value} (S : Sp w0 F0 w (rowR e 1 (.slice (some ⟨g, 0, none⟩) n cap) n xs :: L)) {i : Nat} (h : i < xs.length) (u : Value) : Sp w0 F0 (w.setCell ⟨g, i, none⟩ u) (rowR e 1 (.slice (some ⟨g, 0, none⟩) n cap) n (xs.set i u) :: L) := by
  rw [← singles xs] at S
  have := S.rowSet (fun x hx => by obtain ⟨y, _, rfl⟩ := List.mem_map.1 hx; rfl) (i := i) (r := [xs[i]]) (by rw [List.getElem?_map, List.getElem?_eq_getElem h]; rfl) (j := 0) (by decide) u
  rw [show (xs.map fun x => [x]).set i ([xs[i]].set 0 u) = (xs.set i u).map fun x => [x] by rw [List.map_set]; rfl, singles] at this
  simpa using this
theorem Sp.rowSlice {e k n : Nat} {v : Value} {xs : List Value} (S : Sp w0 F0 w (rowR e k v n xs :: L)) : ∃ a cap, v = .slice a n cap := by
  rcases S.rowForm with ⟨rfl, rfl⟩ | ⟨g, cap, rfl⟩
  · exact ⟨_, _, rfl⟩
  · exact ⟨_, _, rfl⟩
/-- The client in memory, its rows' lengths told by one number. -/
abbrev r22N (p n : Nat) (C : Cl) (tv sv kv : Value) (bs : List Mb) (st : List Int) (ac : List Bool) (L : List Res) : List Res := r22B p C tv sv kv :: rowR 37 2 tv n (bs.map Mb.vals).flatten :: rowR 3 1 sv n (st.map fun z => .int .i64 z) :: rowR 4 1 kv n (ac.map fun z => .bool z) :: L
theorem r22N_eq : r22R p C tv sv kv L = r22N p C.tos.length C tv sv kv (C.tos.map Rc.box) (C.tos.map Rc.state) (C.tos.map Rc.acc) L := by
  unfold r22R r22N rbxR intsR boolsR
  simp only [List.length_map]
theorem becL_box (st : Int) (pr : Rc → Bool) (l : List Rc) : (l.map (becF st pr)).map Rc.box = l.map Rc.box := by
  rw [List.map_map]
  exact List.map_congr_left fun r _ => by unfold Function.comp becF; split <;> rfl
theorem becL_acc (st : Int) (pr : Rc → Bool) (l : List Rc) : (l.map (becF st pr)).map Rc.acc = l.map Rc.acc := by
  rw [List.map_map]
  exact List.map_congr_left fun r _ => by unfold Function.comp becF; split <;> rfl
set_option maxRecDepth 100000 in
set_option maxHeartbeats 2000000 in
theorem r22SetS (st : Int) (a : Bool) (hn : C.tos.length ≤ 1000) (S : Sp w0 F0 w (r22R p C tv sv kv L)) : Calls Tryz.prog 45 #[.pointer (some ⟨p, 0, none⟩), .int .i64 st, .bool a] w fun e w2 => e = .returned (.tuple #[]) ∧ Sp w0 F0 w2 (r22R p (C.become st (setP a)) tv sv kv L) := by
  have HV : Hid (∀ wx, Sp w0 F0 wx (r22N p C.tos.length C tv sv kv (C.tos.map Rc.box) ((becL st (setP a) C.tos C.tos.length).map Rc.state) (C.tos.map Rc.acc) L) → Sp w0 F0 wx (r22R p (C.become st (setP a)) tv sv kv L)) := fun wx h => by
    rw [r22N_eq]
    rw [becL_all] at h
    show Sp w0 F0 wx (r22N p (C.tos.map (becF st (setP a))).length { C with tos := C.tos.map (becF st (setP a)) } tv sv kv ((C.tos.map (becF st (setP a))).map Rc.box) ((C.tos.map (becF st (setP a))).map Rc.state) ((C.tos.map (becF st (setP a))).map Rc.acc) L)
    rw [becL_box, becL_acc, List.length_map]
    exact h
  rw [r22N_eq] at S
  have c0 := S.cell
  obtain ⟨ta, tc, rfl⟩ := ((Sp.pick [_, _, _, _] [1] (by decide) (S))).rowSlice
  obtain ⟨sa, sc, rfl⟩ := ((Sp.pick [_, _, _, _] [2] (by decide) (S))).rowSlice
  obtain ⟨ka, kc, rfl⟩ := ((Sp.pick [_, _, _, _] [3] (by decide) (S))).rowSlice
  have HS0 := Lib.hid S
  have hnl : (C.tos.length : Int) ≤ 1000 := by omega
  unfold r22Cells at c0
  obtain ⟨host, ⟨fl, fd⟩, tos, body, phase, at_⟩ := C
  dsimp only at *
  clear S hn
  go_enter Tryz.func45, Tryz.ntmps45
  go_wp2_with fail
  clear c0
  go_loopw [6] (fun i wr => ∃ k : Nat, i = .int .i64 k ∧ k ≤ tos.length ∧ Sp w0 F0 wr (r22N p tos.length ⟨host, (fl, fd), tos, body, phase, at_⟩ (.slice ta tos.length tc) (.slice sa tos.length sc) (.slice ka tos.length kc) (tos.map Rc.box) ((becL st (setP a) tos k).map Rc.state) (tos.map Rc.acc) L)) (fun i _ => tos.length - (intOf i).toNat)
  case atStart => exact ⟨0, rfl, Nat.zero_le _, by rw [show becL st (setP a) tos 0 = tos by simp [becL]]; exact HS0.out⟩
  case round =>
    clear HS0
    obtain ⟨k, rfl, hk, S⟩ := hrel
    have HS := Lib.hid S
    have c0 := S.cell
    have f0 := S.free
    unfold r22Cells at c0
    dsimp only at c0
    clear S
    by_cases hlt : k < tos.length
    · have hlt' : (k : Int) < tos.length := by omega
      have hat := becL_at st (setP a) tos k hlt
      have HN := Lib.hid (becL_next st (setP a) tos k hlt)
      have HSM := Lib.hid (becL_same st (setP a) tos k hlt)
      obtain ⟨sg, rfl⟩ : ∃ g, sa = some ⟨g, 0, none⟩ := by
        rcases ((Sp.pick [_, _, _, _] [2] (by decide) (HS.out))).rowForm with ⟨_, h2⟩ | ⟨g2, cap2, h1⟩
        · omega
        · cases h1; exact ⟨g2, rfl⟩
      obtain ⟨kg, rfl⟩ : ∃ g, ka = some ⟨g, 0, none⟩ := by
        rcases ((Sp.pick [_, _, _, _] [3] (by decide) (HS.out))).rowForm with ⟨_, h2⟩ | ⟨g2, cap2, h1⟩
        · omega
        · cases h1; exact ⟨g2, rfl⟩
      have k2 := ((Sp.pick [_, _, _, _] [2] (by decide) (HS.out))).cell1 (i := k) (u := .int .i64 tos[k].state) (by rw [List.getElem?_map, List.getElem?_map, hat]; rfl)
      have k3 := ((Sp.pick [_, _, _, _] [3] (by decide) (HS.out))).cell1 (i := k) (u := .bool tos[k].acc) (by rw [List.getElem?_map, List.getElem?_map, List.getElem?_eq_getElem hlt]; rfl)
      have f2 := ((Sp.pick [_, _, _, _] [2] (by decide) (HS.out))).rowFree k
      have HST := Lib.hid (((Sp.pick [_, _, _, _] [2, 0, 1, 3] (by decide) (HS.out))).set1 (i := k) (by rw [List.length_map, List.length_map, becL_len]; exact hlt) (.int .i64 st))
      have HB1 : Hid (setP a tos[k] = (tos[k].state == 0 && (!a || tos[k].acc))) := rfl
      have HB2 : Hid (setP a tos[k] = true → (((becL st (setP a) tos k).map Rc.state).map fun z => (.int .i64 z : Value)).set k (.int .i64 st) = (((becL st (setP a) tos (k + 1)).map Rc.state).map fun z => (.int .i64 z : Value))) := fun h => by
        rw [HN.out, List.map_set, List.map_set]
        unfold becF
        rw [if_pos h]
      clear hat HN
      generalize setP a tos[k] = sp at *
      generalize tos[k].acc = ac at *
      generalize tos[k].state = sta at *
      by_cases hs : sta = 0
      · subst hs
        cases a with
        | false =>
          obtain rfl : sp = true := HB1.out
          have HE := Lib.hid (HB2.out rfl)
          rw [HE.out] at HST
          clear HB1 HB2 HSM
          go_wp2
          go_roundw
          case rel => exact ⟨k + 1, by go_num, by omega, (Sp.pick [_, _, _, _] [1, 2, 0, 3] (by decide) (HST.out))⟩
          case measure => simp [intOf]; omega
        | true =>
          cases ac with
          | true =>
            obtain rfl : sp = true := HB1.out
            have HE := Lib.hid (HB2.out rfl)
            rw [HE.out] at HST
            clear HB1 HB2 HSM
            go_wp2
            go_roundw
            case rel => exact ⟨k + 1, by go_num, by omega, (Sp.pick [_, _, _, _] [1, 2, 0, 3] (by decide) (HST.out))⟩
            case measure => simp [intOf]; omega
          | false =>
            obtain rfl : sp = false := HB1.out
            have HE := Lib.hid (HSM.out rfl)
            clear HB1 HB2 HSM HST
            go_wp2
            go_roundw
            case rel => exact ⟨k + 1, by go_num, by omega, by rw [HE.out]; exact HS.out⟩
            case measure => simp [intOf]; omega
      · have hs1 : (sta == 0) = false := by simpa using hs
        obtain rfl : sp = false := by rw [HB1.out, hs1]; rfl
        have HE := Lib.hid (HSM.out rfl)
        clear HB1 HB2 HSM HST hs
        go_wp2
        go_roundw
        case rel => exact ⟨k + 1, by go_num, by omega, by rw [HE.out]; exact HS.out⟩
        case measure => simp [intOf]; omega
    · obtain rfl : k = tos.length := by omega
      go_wp2
      go_end0
      exact ⟨rfl, HV.out _ HS.out⟩
theorem bxVals_len (l : List Mb) : ∀ x ∈ l.map Mb.vals, x.length = 2 := fun x hx => by
  obtain ⟨r, _, rfl⟩ := List.mem_map.1 hx
  rfl
theorem Sp.bxCells {n g cap : Nat} {l : List Mb} (S : Sp w0 F0 w (rowR 37 2 (.slice (some ⟨g, 0, none⟩) n cap) n (l.map Mb.vals).flatten :: L)) {k : Nat} {b : Mb} (h : l[k]? = some b) : w.cell? ⟨g, k * 2, none⟩ = some (.string ⟨b.1.toArray⟩) ∧ w.cell? ⟨g, k * 2 + 1, none⟩ = some (.string ⟨b.2.toArray⟩) := by
  have hr : (l.map Mb.vals)[k]? = some (Mb.vals b) := by rw [List.getElem?_map, h]; rfl
  exact ⟨S.rowCell (bxVals_len l) hr (j := 0) rfl, S.rowCell (bxVals_len l) hr (j := 1) rfl⟩
set_option maxRecDepth 100000 in
set_option maxHeartbeats 4000000 in
theorem r22NextS (hb : ∀ r ∈ C.tos, r.box.1.length ≤ 2048 ∧ r.box.2.length ≤ 2048) (hn : C.tos.length ≤ 1000) (ha : C.at_ ≤ 100000) (h0 : ∀ r ∈ C.tos, r.acc = true → r.state = 0) (S : Sp w0 F0 w (r22R p C tv sv kv L)) : Calls Tryz.prog 43 #[.pointer (some ⟨p, 0, none⟩)] w (OutRR w0 F0 L p tv sv kv C.name) := by
  have HSD0 := Lib.hid (fun (x : Cm) (F : CmS x) (ph : Int) (w' : World) (S' : Sp w0 F0 w' (r22R p C tv sv kv L)) => r22SendS x ph S' F)
  have HLV := Lib.hid (fun (w' : World) (S' : Sp w0 F0 w' (r22R p C tv sv kv L)) => r22LeaveS S')
  have HQL : Hid (∀ x ph, (C.send x ph).1.tos = C.tos ∧ (C.send x ph).1.at_ = C.at_) := fun _ _ => ⟨rfl, rfl⟩
  have HR : Hid (r22R p C tv sv kv L = r22N p C.tos.length C tv sv kv (C.tos.map Rc.box) (C.tos.map Rc.state) (C.tos.map Rc.acc) L) := r22N_eq
  have HS := Lib.hid S
  rw [HR.out] at S
  have c0 := S.cell
  obtain ⟨ta, tc, rfl⟩ := ((Sp.pick [_, _, _, _] [1] (by decide) (S))).rowSlice
  obtain ⟨sa, sc, rfl⟩ := ((Sp.pick [_, _, _, _] [2] (by decide) (S))).rowSlice
  obtain ⟨ka, kc, rfl⟩ := ((Sp.pick [_, _, _, _] [3] (by decide) (S))).rowSlice
  have hnl : (C.tos.length : Int) ≤ 1000 := by omega
  unfold r22Cells at c0
  by_cases hlt : C.at_ < C.tos.length
  · have hlt' : (C.at_ : Int) < C.tos.length := by omega
    have hat : C.tos[C.at_]? = some C.tos[C.at_] := List.getElem?_eq_getElem hlt
    have HV : Hid (C.name = C.send ⟨4, [], C.tos[C.at_].box, 0, false⟩ 4) := by unfold Hid Cl.name; rw [hat]
    obtain ⟨h1, h2⟩ := hb _ (List.getElem_mem hlt)
    have HSD := Lib.hid (HSD0.out ⟨4, [], C.tos[C.at_].box, 0, false⟩ ⟨by simp, h1, h2, (show (-9223372036854775808 : Int) ≤ 0 by decide), (show (0 : Int) ≤ 9223372036854775807 by decide)⟩ 4)
    have HQ := Lib.hid (HQL.out ⟨4, [], C.tos[C.at_].box, 0, false⟩ 4)
    obtain ⟨ga, rfl⟩ : ∃ ga, ta = some ⟨ga, 0, none⟩ := by
      rcases ((Sp.pick [_, _, _, _] [1] (by decide) (S))).rowForm with ⟨_, h2⟩ | ⟨g2, cap2, h1⟩
      · omega
      · cases h1; exact ⟨g2, rfl⟩
    have HAT : Hid ((C.tos.map Rc.box)[C.at_]? = some C.tos[C.at_].box) := by unfold Hid; rw [List.getElem?_map, hat]; rfl
    obtain ⟨k0, k1⟩ := ((Sp.pick [_, _, _, _] [1] (by decide) (S))).bxCells HAT.out
    rw [HV.out]
    generalize C.tos[C.at_].box = bx at *
    obtain ⟨rl, rd⟩ := bx
    unfold cmAgg at HSD
    dsimp only at *
    have HSTF : Hid (∀ (D : Cl) (x : World), D.tos = C.tos → D.at_ = C.at_ → Sp w0 F0 x (r22R p D (.slice (some ⟨ga, 0, none⟩) C.tos.length tc) (.slice sa C.tos.length sc) (.slice ka C.tos.length kc) L) → x.cell? ⟨p, 3, none⟩ = some (.slice (some ⟨ga, 0, none⟩) C.tos.length tc) ∧ x.cell? ⟨p, 8, none⟩ = some (.int .i64 C.at_) ∧ x.cell? ⟨ga, C.at_ * 2, none⟩ = some (.string ⟨rl.toArray⟩) ∧ x.cell? ⟨ga, C.at_ * 2 + 1, none⟩ = some (.string ⟨rd.toArray⟩)) := fun D x e1 e2 h => by
      rw [r22N_eq, e1] at h
      have hk := ((Sp.pick [_, _, _, _] [1] (by decide) (h))).bxCells HAT.out
      exact ⟨h.cell 3, by rw [h.cell 8]; unfold r22Cells; rw [e2]; rfl, hk⟩
    generalize C.send ⟨4, [], (rl, rd), 0, false⟩ 4 = q at *
    clear hb h0 S h1 h2 hat HV hlt HSD0 HLV HQL HR
    go_enter Tryz.func43, Tryz.ntmps43
    go_wp2_with fail
    go_region
    go_wp2_with fail
    refine wp_region_chainG [0, 1, 2, 3, 4, 5, 6, 7, 8, 9, 10, 11, 12, 13] (fun c => c == 12) (T := fun wx => wx.cell? ⟨p, 3, none⟩ = some (.slice (some ⟨ga, 0, none⟩) C.tos.length tc) ∧ wx.cell? ⟨p, 8, none⟩ = some (.int .i64 C.at_) ∧ wx.cell? ⟨ga, C.at_ * 2, none⟩ = some (.string ⟨rl.toArray⟩) ∧ wx.cell? ⟨ga, C.at_ * 2 + 1, none⟩ = some (.string ⟨rd.toArray⟩)) (S := fun wx => Sp w0 F0 wx (r22R p C (.slice (some ⟨ga, 0, none⟩) C.tos.length tc) (.slice sa C.tos.length sc) (.slice ka C.tos.length kc) L)) (by kernel_rfl) (by kernel_rfl) HS.out.drew.drew (fun x h => HSTF.out C x rfl rfl h) ?_
    repeat
      refine Exists.intro _ (And.intro rfl (Or.inl (Exists.intro ?_ (And.intro (fun wS hS K hK => ?_) (And.intro ?_ ?_)))))
      rotate_left 1
      · obtain ⟨t0, t1, t2, t3⟩ := hS
        first
          | (refine if_unwanted rfl ?_; simp only [Act.put, List.setIfInBounds_toArray, List.set_cons_zero, List.set_cons_succ]; exact hK.out)
          | (refine if_wanted rfl ?_; go_simp; exact hK.out)
      · rfl
    refine ChainG.one rfl rfl rfl (fun wS hS R hR => ?_)
    go_simp
    go_at_call 42
    refine (HSD.out wS hS).mono ?_
    rintro e w7 ⟨rfl, S7⟩
    refine hR.out _ _ rfl (fun wx => wx.cell? ⟨p, 3, none⟩ = some (.slice (some ⟨ga, 0, none⟩) C.tos.length tc) ∧ wx.cell? ⟨p, 8, none⟩ = some (.int .i64 C.at_) ∧ wx.cell? ⟨ga, C.at_ * 2, none⟩ = some (.string ⟨rl.toArray⟩) ∧ wx.cell? ⟨ga, C.at_ * 2 + 1, none⟩ = some (.string ⟨rd.toArray⟩)) (fun wx => Sp w0 F0 wx (r22R p q.1 (.slice (some ⟨ga, 0, none⟩) C.tos.length tc) (.slice sa C.tos.length sc) (.slice ka C.tos.length kc) L)) (by unfold r22R; rw [HQ.out.1]; exact S7) (fun x h => HSTF.out q.1 x HQ.out.1 HQ.out.2 h) (fun _ h => h) ?_
    clear hR hS S7
    repeat
      refine Exists.intro _ (And.intro rfl (Or.inl (Exists.intro ?_ (And.intro (fun wS hS K hK => ?_) (And.intro ?_ ?_)))))
      rotate_left 1
      · obtain ⟨t0, t1, t2, t3⟩ := hS
        first
          | (refine if_unwanted rfl ?_; simp only [Act.put, List.setIfInBounds_toArray, List.set_cons_zero, List.set_cons_succ]; exact hK.out)
          | (refine if_wanted rfl ?_; go_simp; exact hK.out)
      · rfl
    intro wE hE
    have HSE := Lib.hid hE
    clear hE
    go_wp2
    go_ret
    exact ⟨rfl, HSE.out⟩
  · have hlt' : (C.tos.length : Int) ≤ C.at_ := by omega
    have hnone : C.tos[C.at_]? = none := List.getElem?_eq_none (by omega)
    have HV : Hid (C.name = if C.tos.any Rc.taken then C.send ⟨5, [], ([], []), 0, false⟩ 5 else C.leave) := by unfold Hid Cl.name; rw [hnone]
    have HSD := Lib.hid (HSD0.out ⟨5, [], ([], []), 0, false⟩ ⟨by simp, by simp, by simp, by decide, by decide⟩ 5)
    have HQ := Lib.hid (HQL.out ⟨5, [], ([], []), 0, false⟩ 5)
    have HQ2 : Hid (C.leave.1.tos = C.tos) := rfl
    have H0 := Lib.hid h0
    unfold cmAgg at HSD
    dsimp only at *
    generalize C.send ⟨5, [], ([], []), 0, false⟩ 5 = q at *
    generalize C.leave = ql at *
    clear hb h0 S hlt HSD0 HQL hnone
    go_enter Tryz.func43, Tryz.ntmps43
    go_wp2_with fail
    go_region
    go_wp2_with fail
    clear c0
    go_loopw [3] (fun i wr => ∃ k : Nat, i = .int .i64 k ∧ k ≤ C.tos.length ∧ (∀ r ∈ C.tos.take k, r.acc = false) ∧ Sp w0 F0 wr (r22R p C (.slice ta C.tos.length tc) (.slice sa C.tos.length sc) (.slice ka C.tos.length kc) L)) (fun i _ => C.tos.length - (intOf i).toNat)
    case atStart => exact ⟨0, rfl, Nat.zero_le _, by simp, HS.out.drew⟩
    case round =>
      clear HS
      obtain ⟨k, rfl, hk, hall, S⟩ := hrel
      have HALL := Lib.hid hall
      have HS := Lib.hid S
      rw [HR.out] at S
      have c0 := S.cell
      unfold r22Cells at c0
      clear hall
      by_cases hk2 : k < C.tos.length
      · have hk' : (k : Int) < C.tos.length := by omega
        obtain ⟨kg, rfl⟩ : ∃ g, ka = some ⟨g, 0, none⟩ := by
          rcases ((Sp.pick [_, _, _, _] [3] (by decide) (S))).rowForm with ⟨_, h2⟩ | ⟨g2, cap2, h1⟩
          · omega
          · cases h1; exact ⟨g2, rfl⟩
        have k3 := ((Sp.pick [_, _, _, _] [3] (by decide) (S))).cell1 (i := k) (u := .bool C.tos[k].acc) (by rw [List.getElem?_map, List.getElem?_map, List.getElem?_eq_getElem hk2]; rfl)
        have HM : Hid (C.tos[k] ∈ C.tos) := List.getElem_mem hk2
        have HST : Hid (C.tos.take (k + 1) = C.tos.take k ++ [C.tos[k]]) := List.take_succ_eq_append_getElem hk2
        have HT : Hid (C.tos[k].taken = (C.tos[k].state == 0 && C.tos[k].acc)) := rfl
        generalize C.tos[k] = r at *
        clear S
        cases hac : r.acc with
        | true =>
          have HANY : Hid (C.tos.any Rc.taken = true) := List.any_eq_true.2 ⟨r, HM.out, by rw [HT.out, hac, H0.out r HM.out hac]; rfl⟩
          rw [HANY.out, if_pos rfl] at HV
          rw [hac] at k3
          clear hac
          go_wp2_with fail
          refine (HSD.out _ HS.out).mono ?_
          rintro e w4 ⟨rfl, S⟩
          have HS4 := Lib.hid S
          clear S HS
          go_wp2
          go_ret
          rw [HV.out]
          refine ⟨rfl, ?_⟩
          unfold r22R
          rw [HQ.out.1]
          exact HS4.out
        | false =>
          have HA2 : Hid (∀ r ∈ C.tos.take (k + 1), r.acc = false) := by
            rw [Hid, HST.out]
            intro x hx
            rcases List.mem_append.1 hx with h | h
            · exact HALL.out x h
            · rw [List.mem_singleton.1 h]; exact hac
          rw [hac] at k3
          clear hac
          go_wp2
          go_roundw
          case rel => exact ⟨k + 1, by go_num, by omega, HA2.out, HS.out⟩
          case measure => simp [intOf]; omega
      · obtain rfl : k = C.tos.length := by omega
        have HANY : Hid (C.tos.any Rc.taken = false) := by
          rw [Hid, List.any_eq_false]
          intro r hr
          have := HALL.out r (by rw [List.take_of_length_le (Nat.le_refl _)]; exact hr)
          unfold Rc.taken
          rw [this]
          simp
        rw [HANY.out, if_neg (by decide)] at HV
        clear S
        go_wp2_with fail
        refine (HLV.out _ HS.out).mono ?_
        rintro e w4 ⟨rfl, S⟩
        have HS4 := Lib.hid S
        clear S HS
        go_wp2
        go_ret
        rw [HV.out]
        exact ⟨rfl, HS4.out⟩
end
end Go.Proofs.YtldlbiodllgflaaGreatDoor

/-! R22b -/
namespace Go.Proofs.YtldlbiodllgflaaGreatDoor
open Go.RowKit

theorem stuff_take (l : List Bs) {k : Nat} (h : k < l.length) : (l.take (k + 1)).map dotted = (l.take k).map dotted ++ [dotted l[k]] := by
  rw [List.take_succ_eq_append_getElem h, List.map_append]
  rfl
section
variable {w0 w : World} {F0 : List Nat} {L : List Res} {p : Nat} {v tv sv kv : Value} {C : Cl}
set_option maxRecDepth 100000 in
set_option maxHeartbeats 2000000 in
theorem r08StuffS (l : List Bs) (hn : l.length ≤ 1000000) (hs : ∀ s ∈ l, s.length ≤ 1000000) (hj : (lnStuff l).length ≤ 9000000000) (S : Sp w0 F0 w (textsR v l :: L)) : Calls Tryz.prog 44 #[v] w fun e w2 => e = .returned (.string ⟨(lnStuff l).toArray⟩) ∧ Sp w0 F0 w2 (textsR v l :: L) := by
  have HSH := Lib.hid hs
  have HJ := Lib.hid hj
  have HV : Hid (lnStuff l = lnJoin (l.map dotted ++ [[46]])) := by
    unfold Hid
    rw [lnStuff_join]
    simp [lnJoin, List.flatMap_append]
  rw [HV.out] at HJ ⊢
  obtain ⟨a, cap, rfl⟩ := S.tx.form
  have hln : (l.length : Int) ≤ 1000000 := by omega
  have HS0 := Lib.hid S.textsNone
  clear S hs hj hn
  go_enter Tryz.func44, Tryz.ntmps44
  go_wp2_with fail
  generalize w.alloc (.cells #[] 9) = w1 at *
  generalize w.heap.size = q at *
  go_loopw [3, 4] (fun o i wr => ∃ k : Nat, i = .int .i64 k ∧ k ≤ l.length ∧ Sp w0 F0 wr (textsR o ((l.take k).map dotted) :: textsR (.slice a l.length cap) l :: L)) (fun _ i _ => l.length - (intOf i).toNat)
  case atStart => exact ⟨0, rfl, Nat.zero_le _, HS0.out⟩
  case round =>
    clear HS0
    obtain ⟨k, rfl, hk, S⟩ := hrel
    have HS := Lib.hid S
    have HT := Lib.hid S.pull1.tx
    obtain ⟨oa, oc, hof⟩ := S.tx.form
    have HLN : Hid (((l.take k).map dotted).length = k) := by unfold Hid; rw [List.length_map, List.length_take]; omega
    rw [HLN.out] at hof
    subst hof
    clear S
    by_cases hlt : k < l.length
    · have hlt' : (k : Int) < l.length := by omega
      obtain ⟨b, off, rfl, ck⟩ := HT.out.at hlt
      have HX : Hid (l[k].length ≤ 1000000) := HSH.out _ (List.getElem_mem hlt)
      have hxl : (l[k].length : Int) ≤ 1000000 := by have := HX.out; omega
      have HST := Lib.hid (stuff_take l hlt)
      have HDT : Hid (dotted l[k] = (if l[k].head? = some 46 then [46] else []) ++ l[k]) := rfl
      have HD2 : Hid ((dotted l[k]).length ≤ 1000001) := by have := HX.out; unfold Hid dotted; split <;> simp <;> omega
      have HAP := Lib.hid (fun (y : Bs) (w' : World) (S' : Sp w0 F0 w' (textsR (.slice oa k oc) ((l.take k).map dotted) :: textsR (.slice (some ⟨b, off, none⟩) l.length cap) l :: L)) => Sp.appendText 49 y (by have := HLN.out; omega) (S'.box #[.string ⟨y.toArray⟩] 9))
      generalize l[k] = x at *
      generalize (l.take k).map dotted = ds at *
      rw [HLN.out] at HAP
      by_cases hd : x.head? = some 46
      · have HSL : Hid (dotted x = [46] ++ x) := by rw [Hid, HDT.out, if_pos hd]
        obtain ⟨y, rfl⟩ : ∃ y, x = 46 :: y := by
          cases x with
          | nil => cases hd
          | cons c y => cases hd; exact ⟨y, rfl⟩
        have hix := fun w' => idx_head 46 y w'
        have hl0 : (0 : Int) < ((46 :: y : Bs).length : Int) := by simp only [List.length_cons]; omega
        obtain ⟨gg, cc, w4, hrun, S4⟩ := HAP.out (dotted (46 :: y)) wr HS.out
        have HRUN := Lib.hid hrun
        have HS4 := Lib.hid S4
        rw [HSL.out] at HRUN
        clear hd hrun S4 HDT HAP
        have hadd := add_str [46] (46 :: y) (by have := HX.out; simp [maxLen] at *; omega)
        rw [show ((46 : UInt8).toNat : Int) = 46 from rfl] at hix
        generalize 46 :: y = x at *
        go_wp2_with (at_builtin; refine wpList_append_run_g (by rfl) (by rfl) (by rfl) (by rfl) HRUN.out ?_)
        go_roundw
        case rel => exact ⟨k + 1, by go_num, by omega, by rw [HST.out]; exact HS4.out⟩
        case measure => simp [intOf]; omega
      · have HSL : Hid (dotted x = x) := by rw [Hid, HDT.out, if_neg hd]; rfl
        obtain ⟨gg, cc, w4, hrun, S4⟩ := HAP.out x wr HS.out
        have HRUN := Lib.hid hrun
        have HS4 := Lib.hid S4
        clear hrun S4 HDT HAP
        cases x with
        | nil =>
          clear hd
          go_wp2_with (at_builtin; refine wpList_append_run_g (by rfl) (by rfl) (by rfl) (by rfl) HRUN.out ?_)
          go_roundw
          case rel => exact ⟨k + 1, by go_num, by omega, by rw [HST.out, HSL.out]; exact HS4.out⟩
          case measure => simp [intOf]; omega
        | cons c y =>
          have hc : c ≠ 46 := fun e => hd (by rw [e]; rfl)
          have hix := fun w' => idx_head c y w'
          have hl0 : (0 : Int) < ((c :: y : Bs).length : Int) := by simp only [List.length_cons]; omega
          have hcb : ((c.toNat : Int) == 46) = false := by rw [show ((c.toNat : Int) == 46) = (c == 46) from eq_u8b c 46]; simpa using hc
          clear hd hc
          generalize hxx : c :: y = x at *
          clear hxx
          go_wp2_with (at_builtin; refine wpList_append_run_g (by rfl) (by rfl) (by rfl) (by rfl) HRUN.out ?_)
          go_roundw
          case rel => exact ⟨k + 1, by go_num, by omega, by rw [HST.out, HSL.out]; exact HS4.out⟩
          case measure => simp [intOf]; omega
    · obtain rfl : k = l.length := by omega
      rw [List.take_of_length_le (Nat.le_refl _)] at HS HLN
      obtain ⟨gg, cc, w4, hrun, S4⟩ := Sp.appendText 49 [46] (by have := HLN.out; omega) (HS.out.box #[.string ⟨([46] : Bs).toArray⟩] 9)
      rw [HLN.out] at hrun S4
      have HRUN := Lib.hid hrun
      have HS4 := Lib.hid S4
      have HJN := Lib.hid (fun w' T => r08Join_any (w := w') (v := .slice (some ⟨gg, 0, none⟩) (l.length + 1) cc) (l.map dotted ++ [[46]]) T HJ.out)
      clear hrun S4
      go_wp2_with (at_builtin; refine wpList_append_run_g (by rfl) (by rfl) (by rfl) (by rfl) HRUN.out ?_)
      refine (HJN.out _ HS4.out.tx).mono ?_
      rintro e w5 ⟨rfl, rfl⟩
      go_wp2
      go_ret
      exact ⟨rfl, HS4.out.drop⟩
theorem r22Named (C : Cl) (r : Rc) (h : C.tos[C.at_]? = some r) (r2 : Rc) (hb : r2.box = r.box) :
    (C.tos.set C.at_ r2).map Rc.box = C.tos.map Rc.box ∧ (C.tos.set C.at_ r2).map Rc.state = (C.tos.map Rc.state).set C.at_ r2.state ∧ (C.tos.set C.at_ r2).map Rc.acc = (C.tos.map Rc.acc).set C.at_ r2.acc := by
  refine ⟨?_, List.map_set .., List.map_set ..⟩
  rw [List.map_set, hb]
  apply List.ext_getElem?
  intro i
  rw [List.getElem?_set]
  obtain ⟨hl, he⟩ := List.getElem?_eq_some_iff.1 h
  by_cases e : C.at_ = i
  · subst e
    rw [if_pos rfl, if_pos (by rw [List.length_map]; exact hl), List.getElem?_map, h]
    rfl
  · rw [if_neg e]
theorem set_as_is {α : Type} {l : List α} {i : Nat} {x : α} (h : l[i]? = some x) : l.set i x = l := by
  apply List.ext_getElem?
  intro j
  rw [List.getElem?_set]
  obtain ⟨hl, he⟩ := List.getElem?_eq_some_iff.1 h
  by_cases e : i = j
  · subst e; rw [if_pos rfl, if_pos hl, h]
  · rw [if_neg e]
/-- Who is accepted waits, as long as the text was not taken; and who was not named yet is as at the beginning. -/
def Cl.Fit (C : Cl) : Prop := C.phase < 6 → ∀ i r, C.tos[i]? = some r → (r.acc = true → r.state = 0) ∧ (C.at_ ≤ i → r.acc = false ∧ r.state = 0)
theorem Cl.Fit.acc {C : Cl} (h : C.Fit) (hp : C.phase < 6) : ∀ r ∈ C.tos, r.acc = true → r.state = 0 := fun r hr => by
  obtain ⟨i, hi⟩ := List.mem_iff_getElem?.1 hr
  exact (h hp i r hi).1
set_option maxRecDepth 100000 in
set_option maxHeartbeats 4000000 in
theorem r22Take4 (code : Int) (hc1 : -9223372036854775808 ≤ code) (hc2 : code ≤ 9223372036854775807) (K : C.Ok) (J : C.Fit) (hp : C.phase = 4) (S : Sp w0 F0 w (r22R p C tv sv kv L)) : Calls Tryz.prog 13 #[.pointer (some ⟨p, 0, none⟩), .int .i64 code] w (OutRR w0 F0 L p tv sv kv (C.take code)) := by
  have HCL := Lib.hid (fun w' => r10Class_any code w' hc1 hc2)
  have hlt := K.at4 hp
  have hat : C.tos[C.at_]? = some C.tos[C.at_] := List.getElem?_eq_getElem hlt
  have hj1 := J.acc (by omega)
  obtain ⟨ha0, hs0⟩ := (J (by omega) _ _ hat).2 (Nat.le_refl _)
  have HT : Hid (C.take code = C.named (classC code)) := by unfold Hid Cl.take; rw [if_pos hp]
  generalize classC code = cls at *
  have HD : Hid (C.named cls = ({ C with tos := C.tos.set C.at_ (C.tos[C.at_].told cls), at_ := C.at_ + 1 } : Cl).name) := by
    rw [Hid, ← modify_set hat (·.told cls)]; rfl
  have HBX : Hid (∀ r ∈ C.tos.set C.at_ (C.tos[C.at_].told cls), r.box.1.length ≤ 2048 ∧ r.box.2.length ≤ 2048) := fun r hr => by
    rcases List.mem_or_eq_of_mem_set hr with h | rfl
    · have := K.bx r h; omega
    · rw [told_box]
      have := K.bx _ (List.getElem_mem hlt); omega
  have HJJ : Hid (∀ r ∈ C.tos.set C.at_ (C.tos[C.at_].told cls), r.acc = true → r.state = 0) := fun r hr hra => by
    rcases List.mem_or_eq_of_mem_set hr with h | rfl
    · exact hj1 r h hra
    · unfold Rc.told at hra ⊢
      split at hra
      · rename_i h; rw [if_pos h]; exact hs0
      · split at hra
        · rw [ha0] at hra; cases hra
        · rw [ha0] at hra; cases hra
  have HMP := Lib.hid (r22Named C _ hat (C.tos[C.at_].told cls) (told_box _ _))
  have HN : Hid (∀ w', Sp w0 F0 w' (r22N p C.tos.length { C with at_ := C.at_ + 1 } tv sv kv (C.tos.map Rc.box) ((C.tos.map Rc.state).set C.at_ (C.tos[C.at_].told cls).state) ((C.tos.map Rc.acc).set C.at_ (C.tos[C.at_].told cls).acc) L) → Calls Tryz.prog 43 #[.pointer (some ⟨p, 0, none⟩)] w' (OutRR w0 F0 L p tv sv kv (C.take code))) := fun w' S' => by
    rw [HT.out, HD.out]
    refine r22NextS (C := ({ C with tos := C.tos.set C.at_ (C.tos[C.at_].told cls), at_ := C.at_ + 1 } : Cl)) HBX.out (by have := K.n10; simp; omega) (by have := K.atn; have := K.n10; show C.at_ + 1 ≤ _; omega) HJJ.out ?_
    rw [r22N_eq]
    dsimp only
    rw [HMP.out.1, HMP.out.2.1, HMP.out.2.2, List.length_set]
    exact S'
  have HR : Hid (r22R p C tv sv kv L = r22N p C.tos.length C tv sv kv (C.tos.map Rc.box) (C.tos.map Rc.state) (C.tos.map Rc.acc) L) := r22N_eq
  rw [HR.out] at S
  have c0 := S.cell
  have f0 := S.free
  have l0 := S.boxlt
  obtain ⟨ta, tc, rfl⟩ := ((Sp.pick [_, _, _, _] [1] (by decide) (S))).rowSlice
  obtain ⟨sa, sc, rfl⟩ := ((Sp.pick [_, _, _, _] [2] (by decide) (S))).rowSlice
  obtain ⟨ka, kc, rfl⟩ := ((Sp.pick [_, _, _, _] [3] (by decide) (S))).rowSlice
  obtain ⟨sg, rfl⟩ : ∃ g, sa = some ⟨g, 0, none⟩ := by
    rcases ((Sp.pick [_, _, _, _] [2] (by decide) (S))).rowForm with ⟨_, h2⟩ | ⟨g2, cap2, h1⟩
    · omega
    · cases h1; exact ⟨g2, rfl⟩
  obtain ⟨kg, rfl⟩ : ∃ g, ka = some ⟨g, 0, none⟩ := by
    rcases ((Sp.pick [_, _, _, _] [3] (by decide) (S))).rowForm with ⟨_, h2⟩ | ⟨g2, cap2, h1⟩
    · omega
    · cases h1; exact ⟨g2, rfl⟩
  have HS := Lib.hid S
  have hlt' : (C.at_ : Int) < C.tos.length := by omega
  have han : (C.at_ : Int) ≤ 100 := by have := K.atn; have := K.n10; omega
  have hnn : (C.tos.length : Int) ≤ 100 := by have := K.n10; omega
  have HAT4 : Hid (((C.at_ : Int) + 1) = ((C.at_ + 1 : Nat) : Int)) := by unfold Hid; omega
  have HSA : Hid ((C.tos.map Rc.state).set C.at_ 0 = C.tos.map Rc.state) := set_as_is (by rw [List.getElem?_map, hat, Option.map_some, hs0])
  have HKA : Hid ((C.tos.map Rc.acc).set C.at_ false = C.tos.map Rc.acc) := set_as_is (by rw [List.getElem?_map, hat, Option.map_some, ha0])
  have k2 := ((Sp.pick [_, _, _, _] [2] (by decide) (S))).cell1 (i := C.at_) (u := .int .i64 C.tos[C.at_].state) (by rw [List.getElem?_map, List.getElem?_map, hat]; rfl)
  have k3 := ((Sp.pick [_, _, _, _] [3] (by decide) (S))).cell1 (i := C.at_) (u := .bool C.tos[C.at_].acc) (by rw [List.getElem?_map, List.getElem?_map, hat]; rfl)
  have f2 := ((Sp.pick [_, _, _, _] [2] (by decide) (S))).rowFree C.at_
  have f3 := ((Sp.pick [_, _, _, _] [3] (by decide) (S))).rowFree C.at_
  have S2 := ((Sp.pick [_, _, _, _] [2, 0, 1, 3] (by decide) (S))).set1 (i := C.at_) (by rw [List.length_map, List.length_map]; exact hlt) (.int .i64 2)
  have S3 := ((Sp.pick [_, _, _, _] [3, 0, 1, 2] (by decide) (S))).set1 (i := C.at_) (by rw [List.length_map, List.length_map]; exact hlt) (.bool true)
  have HTD : Hid (C.tos[C.at_].told cls = if cls = 2 then { C.tos[C.at_] with acc := true } else if cls = 5 then { C.tos[C.at_] with state := 2 } else C.tos[C.at_]) := rfl
  have HCC : Hid (∀ a b c, (r22Cells C a b c).setIfInBounds 8 (.int .i64 ((C.at_ + 1 : Nat) : Int)) = r22Cells { C with at_ := C.at_ + 1 } a b c) := fun _ _ _ => rfl
  have q4 : (C.phase == 4) = true := by simpa using hp
  have qn : (C.phase == 0) = false ∧ (C.phase == 1) = false ∧ (C.phase == 2) = false ∧ (C.phase == 3) = false := by rw [hp]; exact ⟨rfl, rfl, rfl, rfl⟩
  obtain ⟨q0, q1, q2, q3⟩ := qn
  clear K J hj1 hat hp HD HBX HJJ HMP HR HT
  generalize C.tos[C.at_] = r at *
  clear hlt
  by_cases h2 : cls = 2
  · have b2 : (cls == 2) = true := by simpa using h2
    have b5 : (cls == 5) = false := by rw [h2]; rfl
    rw [HTD.out, if_pos h2] at HN
    dsimp only at HN
    rw [hs0, HSA.out] at HN
    have c3 := ((Sp.pick [_, _, _, _] [1] (by decide) (S3))).cell
    have g3 := ((Sp.pick [_, _, _, _] [1] (by decide) (S3))).free
    have HS4 := Lib.hid (((Sp.pick [_, _, _, _] [1, 2, 3, 0] (by decide) (S3))).set (o := 8) (.int .i64 ((C.at_ + 1 : Nat) : Int)))
    rw [HCC.out] at HS4
    rw [← List.map_set] at HS4
    unfold r22Cells at c0 c3
    clear S S2 S3 h2 HTD HSA HKA HS
    generalize hq : C.take code = q at *
    clear hq
    go_enter Tryz.func13, Tryz.ntmps13
    go_wp2_with fail
    refine (HCL.out _).mono ?_
    rintro e wq ⟨rfl, rfl⟩
    go_wp2_with fail
    go_region
    go_wp2_with fail
    rw [HAT4.out]
    refine (HN.out _ ?_).mono ?_
    · exact HS4.out.drew
    rintro e w2 ⟨rfl, S⟩
    have HS5 := Lib.hid S
    clear S
    go_wp2
    go_ret
    exact ⟨rfl, HS5.out⟩
  have b2 : (cls == 2) = false := by simpa using h2
  by_cases h5 : cls = 5
  · have b5 : (cls == 5) = true := by simpa using h5
    rw [HTD.out, if_neg h2, if_pos h5] at HN
    dsimp only at HN
    rw [ha0, HKA.out] at HN
    have c3 := ((Sp.pick [_, _, _, _] [1] (by decide) (S2))).cell
    have g3 := ((Sp.pick [_, _, _, _] [1] (by decide) (S2))).free
    have HS4 := Lib.hid (((Sp.pick [_, _, _, _] [1, 2, 0, 3] (by decide) (S2))).set (o := 8) (.int .i64 ((C.at_ + 1 : Nat) : Int)))
    rw [HCC.out] at HS4
    rw [← List.map_set] at HS4
    unfold r22Cells at c0 c3
    clear S S2 S3 h2 h5 HTD HSA HKA HS
    generalize hq : C.take code = q at *
    clear hq
    go_enter Tryz.func13, Tryz.ntmps13
    go_wp2_with fail
    refine (HCL.out _).mono ?_
    rintro e wq ⟨rfl, rfl⟩
    go_wp2_with fail
    go_region
    go_wp2_with fail
    rw [HAT4.out]
    refine (HN.out _ ?_).mono ?_
    · exact HS4.out.drew
    rintro e w2 ⟨rfl, S⟩
    have HS5 := Lib.hid S
    clear S
    go_wp2
    go_ret
    exact ⟨rfl, HS5.out⟩
  · have b5 : (cls == 5) = false := by simpa using h5
    rw [HTD.out, if_neg h2, if_neg h5, ha0, hs0, HSA.out, HKA.out] at HN
    have HS4 := Lib.hid (S.set (o := 8) (.int .i64 ((C.at_ + 1 : Nat) : Int)))
    rw [HCC.out] at HS4
    unfold r22Cells at c0
    clear S S2 S3 h2 h5 HTD HSA HKA HS
    generalize hq : C.take code = q at *
    clear hq
    go_enter Tryz.func13, Tryz.ntmps13
    go_wp2_with fail
    refine (HCL.out _).mono ?_
    rintro e wq ⟨rfl, rfl⟩
    go_wp2_with fail
    rw [HAT4.out]
    refine (HN.out _ ?_).mono ?_
    · exact HS4.out
    rintro e w2 ⟨rfl, S⟩
    have HS5 := Lib.hid S
    clear S
    go_wp2
    go_ret
    exact ⟨rfl, HS5.out⟩
set_option maxRecDepth 100000 in
set_option maxHeartbeats 4000000 in
/-- Behind the switch: those that wait fail, if nobody will take it; then it leaves. -/
theorem r22Tail (code : Int) (hc1 : -9223372036854775808 ≤ code) (hc2 : code ≤ 9223372036854775807) (K : C.Ok) (hp : C.phase = 0 ∨ C.phase = 2 ∨ C.phase = 3) (hk : classC code ≠ 2) (S : Sp w0 F0 w (r22R p C tv sv kv L)) : Calls Tryz.prog 13 #[.pointer (some ⟨p, 0, none⟩), .int .i64 code] w (OutRR w0 F0 L p tv sv kv (C.fail (classC code) Rc.waits)) := by
  have HCL := Lib.hid (fun w' => r10Class_any code w' hc1 hc2)
  have HSET := Lib.hid (r22SetS (C := C) 2 false (by have := K.n10; omega) S)
  have HLV := Lib.hid (fun (D : Cl) (w' : World) (S' : Sp w0 F0 w' (r22R p D tv sv kv L)) => r22LeaveS S')
  have HF : Hid (C.fail (classC code) Rc.waits = (if classC code = 5 then C.become 2 (setP false) else C).leave) := by rw [Hid, setP_false]; rfl
  have HS := Lib.hid S
  have c0 := S.cell
  unfold r22Cells at c0
  have b2 : (classC code == 2) = false := by simpa using hk
  have hor : ((C.phase == 0) = true ∧ decide ((5 : Int) ≤ C.phase) = false) ∨ ((C.phase == 0) = false ∧ (C.phase == 1) = false ∧ (C.phase == 2) = true ∧ decide ((5 : Int) ≤ C.phase) = false) ∨ ((C.phase == 0) = false ∧ (C.phase == 1) = false ∧ (C.phase == 2) = false ∧ (C.phase == 3) = true ∧ decide ((5 : Int) ≤ C.phase) = false) := by
    rcases hp with h | h | h <;> rw [h] <;> decide
  clear K hp hk S
  generalize classC code = cls at *
  by_cases h5 : cls = 5
  · have b5 : (cls == 5) = true := by simpa using h5
    rw [if_pos h5] at HF
    have HL2 := Lib.hid (fun w' S' => HLV.out (C.become 2 (setP false)) w' S')
    rw [HF.out]
    generalize C.become 2 (setP false) = D at *
    clear h5 HLV
    rcases hor with ⟨q0, q5⟩ | ⟨q0, q1, q2, q5⟩ | ⟨q0, q1, q2, q3, q5⟩
    all_goals
      go_enter Tryz.func13, Tryz.ntmps13
      go_wp2_with fail
      refine (HCL.out _).mono ?_
      rintro e wq ⟨rfl, rfl⟩
      go_wp2_with fail
      refine HSET.out.mono ?_
      rintro e w2 ⟨rfl, S⟩
      have HS2 := Lib.hid S
      clear S c0
      go_wp2_with fail
      refine (HL2.out _ HS2.out).mono ?_
      rintro e w3 ⟨rfl, S⟩
      have HS3 := Lib.hid S
      clear S
      go_wp2
      go_ret
      exact ⟨rfl, HS3.out⟩
  · have b5 : (cls == 5) = false := by simpa using h5
    rw [if_neg h5] at HF
    have HL2 := Lib.hid (fun w' S' => HLV.out C w' S')
    rw [HF.out]
    clear h5 HLV HSET
    rcases hor with ⟨q0, q5⟩ | ⟨q0, q1, q2, q5⟩ | ⟨q0, q1, q2, q3, q5⟩
    all_goals
      go_enter Tryz.func13, Tryz.ntmps13
      go_wp2_with fail
      refine (HCL.out _).mono ?_
      rintro e wq ⟨rfl, rfl⟩
      go_wp2_with fail
      refine (HL2.out _ HS.out).mono ?_
      rintro e w3 ⟨rfl, S⟩
      have HS3 := Lib.hid S
      clear S
      go_wp2
      go_ret
      exact ⟨rfl, HS3.out⟩
end
end Go.Proofs.YtldlbiodllgflaaGreatDoor

/-! R22c -/
namespace Go.Proofs.YtldlbiodllgflaaGreatDoor
open Go.RowKit

section
variable {w0 w : World} {F0 : List Nat} {L : List Res} {p : Nat} {v tv sv kv : Value} {C : Cl}
set_option maxRecDepth 100000 in
set_option maxHeartbeats 4000000 in
theorem r22Take5 (code : Int) (hc1 : -9223372036854775808 ≤ code) (hc2 : code ≤ 9223372036854775807) (K : C.Ok) (hp : C.phase = 5 ∨ C.phase = 6) (S : Sp w0 F0 w (r22R p C tv sv kv L)) : Calls Tryz.prog 13 #[.pointer (some ⟨p, 0, none⟩), .int .i64 code] w (OutRR w0 F0 L p tv sv kv (C.take code)) := by
  have HCL := Lib.hid (fun w' => r10Class_any code w' hc1 hc2)
  have HSET := Lib.hid (fun (st : Int) => r22SetS (C := C) st true (by have := K.n10; omega) S)
  have HLV := Lib.hid (fun (D : Cl) (w' : World) (S' : Sp w0 F0 w' (r22R p D tv sv kv L)) => r22LeaveS S')
  have HT : Hid (C.take code = if C.phase = 4 then C.named (classC code)
    else if C.phase = 5 then (if classC code = 3 then ({ C with phase := 6 }, lnStuff (lnSplit C.body).1) else C.fail (classC code) (setP true))
    else if C.phase = 6 then ((if classC code = 2 then C.become 1 (setP true) else C).fail (classC code) (setP true))
    else if C.phase = 7 ∨ C.phase = 8 then ({ C with phase := 8 }, [])
    else C.opening (classC code)) := by rw [setP_true]; rfl
  have HF : Hid (∀ (D : Cl) (cls : Int), D.fail cls (setP true) = (if cls = 5 then D.become 2 (setP true) else D).leave) := fun _ _ => rfl
  have HS := Lib.hid S
  have c0 := S.cell
  have f0 := S.free
  have HS6 := Lib.hid (S.set (o := 7) (.int .i64 6))
  have c6 := HS6.out.cell
  have HSP := Lib.hid (fun w' (S' : Sp w0 F0 w' (r22R p { C with phase := 6 } tv sv kv L)) => r08SplitS C.body S' (by have := K.body; omega))
  have HSF := lnSplit_fit (s := C.body) (by have := K.body; omega)
  have HTL : Hid ((lnStuff (lnSplit C.body).1).length ≤ 9000000000) := by
    have h2 := lnStuf0_len (lnSplit C.body).1 HSF.2
    have h3 : (lnSplit C.body).1.length ≤ 4100 := by
      have hsf := split_facts C.body crlf
      have := K.body
      unfold lnSplit
      rw [List.length_dropLast]
      omega
    have h4 : (lnSplit C.body).1.length * 1000003 ≤ 4100 * 1000003 := Nat.mul_le_mul_right _ h3
    rw [Hid, lnStuff_eq, List.length_append]
    simp
    omega
  have HST := Lib.hid (fun w' v' (S' : Sp w0 F0 w' (textsR v' (lnSplit C.body).1 :: r22R p { C with phase := 6 } tv sv kv L)) => r08StuffS (lnSplit C.body).1 (by have := HSF.1; have hsf := split_facts C.body crlf; have := K.body; unfold lnSplit; rw [List.length_dropLast]; omega) HSF.2 HTL.out S')
  rw [show (lnSplit C.body).1 = (crR C.body).1 by rw [lnSplit_eq]] at HST HT
  unfold r22Cells at c0 c6
  clear S K HSF HTL
  generalize classC code = cls at *
  have b5e : (cls == 5) = decide (cls = 5) := rfl
  rcases hp with hp | hp
  · have q5 : (C.phase == 5) = true := by simpa using hp
    have qn : (C.phase == 0) = false ∧ (C.phase == 1) = false ∧ (C.phase == 2) = false ∧ (C.phase == 3) = false ∧ (C.phase == 4) = false ∧ decide ((5 : Int) ≤ C.phase) = true := by rw [hp]; exact ⟨rfl, rfl, rfl, rfl, rfl, rfl⟩
    obtain ⟨q0, q1, q2, q3, q4, qg⟩ := qn
    rw [if_neg (by omega), if_pos hp] at HT
    clear hp
    by_cases h3 : cls = 3
    · have b3 : (cls == 3) = true := by simpa using h3
      rw [if_pos h3] at HT
      rw [HT.out]
      clear h3 b5e HF HSET HLV HT
      go_enter Tryz.func13, Tryz.ntmps13
      go_wp2_with fail
      refine (HCL.out _).mono ?_
      rintro e wq ⟨rfl, rfl⟩
      go_wp2_with fail
      refine (HSP.out _ HS6.out).mono ?_
      rintro e w2 ⟨v2, rfl, S⟩
      have HS2 := Lib.hid S
      clear S c0 c6 HS6 HS
      go_wp2_with fail
      refine (HST.out _ _ HS2.out).mono ?_
      rintro e w3 ⟨rfl, S⟩
      have HS3 := Lib.hid S.drop
      clear S
      go_wp2
      go_ret
      exact ⟨rfl, HS3.out⟩
    · have b3 : (cls == 3) = false := by simpa using h3
      rw [if_neg h3, HF.out] at HT
      rw [HT.out]
      clear h3 HF HT HSP HST HS6 c6
      by_cases h5 : cls = 5
      · have b5 : (cls == 5) = true := by simpa using h5
        rw [if_pos h5]
        have HS5 := Lib.hid (HSET.out 2)
        generalize C.become 2 (setP true) = D at *
        clear h5 b5e HSET
        go_enter Tryz.func13, Tryz.ntmps13
        go_wp2_with fail
        refine (HCL.out _).mono ?_
        rintro e wq ⟨rfl, rfl⟩
        go_wp2_with fail
        refine HS5.out.mono ?_
        rintro e w2 ⟨rfl, S⟩
        have HS2 := Lib.hid S
        clear S c0
        go_wp2_with fail
        refine (HLV.out _ _ HS2.out).mono ?_
        rintro e w3 ⟨rfl, S⟩
        have HS3 := Lib.hid S
        clear S
        go_wp2
        go_ret
        exact ⟨rfl, HS3.out⟩
      · have b5 : (cls == 5) = false := by simpa using h5
        rw [if_neg h5]
        clear h5 b5e HSET
        go_enter Tryz.func13, Tryz.ntmps13
        go_wp2_with fail
        refine (HCL.out _).mono ?_
        rintro e wq ⟨rfl, rfl⟩
        go_wp2_with fail
        refine (HLV.out _ _ HS.out).mono ?_
        rintro e w3 ⟨rfl, S⟩
        have HS3 := Lib.hid S
        clear S
        go_wp2
        go_ret
        exact ⟨rfl, HS3.out⟩
  · have q6 : (C.phase == 6) = true := by simpa using hp
    have qn : (C.phase == 0) = false ∧ (C.phase == 1) = false ∧ (C.phase == 2) = false ∧ (C.phase == 3) = false ∧ (C.phase == 4) = false ∧ (C.phase == 5) = false ∧ decide ((5 : Int) ≤ C.phase) = true := by rw [hp]; exact ⟨rfl, rfl, rfl, rfl, rfl, rfl, rfl⟩
    obtain ⟨q0, q1, q2, q3, q4, q5, qg⟩ := qn
    rw [if_neg (by omega), if_neg (by omega), if_pos hp, HF.out] at HT
    rw [HT.out]
    clear hp HF HT HSP HST HS6 c6
    by_cases h2 : cls = 2
    · have b2 : (cls == 2) = true := by simpa using h2
      have b5 : (cls == 5) = false := by rw [h2]; rfl
      rw [if_neg (by omega), if_pos h2]
      have HS5 := Lib.hid (HSET.out 1)
      generalize C.become 1 (setP true) = D at *
      clear h2 b5e HSET
      go_enter Tryz.func13, Tryz.ntmps13
      go_wp2_with fail
      refine (HCL.out _).mono ?_
      rintro e wq ⟨rfl, rfl⟩
      go_wp2_with fail
      refine HS5.out.mono ?_
      rintro e w2 ⟨rfl, S⟩
      have HS2 := Lib.hid S
      clear S c0
      go_wp2_with fail
      refine (HLV.out _ _ HS2.out).mono ?_
      rintro e w3 ⟨rfl, S⟩
      have HS3 := Lib.hid S
      clear S
      go_wp2
      go_ret
      exact ⟨rfl, HS3.out⟩
    · have b2 : (cls == 2) = false := by simpa using h2
      rw [if_neg h2]
      by_cases h5 : cls = 5
      · have b5 : (cls == 5) = true := by simpa using h5
        rw [if_pos h5]
        have HS5 := Lib.hid (HSET.out 2)
        generalize C.become 2 (setP true) = D at *
        clear h5 h2 b5e HSET
        go_enter Tryz.func13, Tryz.ntmps13
        go_wp2_with fail
        refine (HCL.out _).mono ?_
        rintro e wq ⟨rfl, rfl⟩
        go_wp2_with fail
        refine HS5.out.mono ?_
        rintro e w2 ⟨rfl, S⟩
        have HS2 := Lib.hid S
        clear S c0
        go_wp2_with fail
        refine (HLV.out _ _ HS2.out).mono ?_
        rintro e w3 ⟨rfl, S⟩
        have HS3 := Lib.hid S
        clear S
        go_wp2
        go_ret
        exact ⟨rfl, HS3.out⟩
      · have b5 : (cls == 5) = false := by simpa using h5
        rw [if_neg h5]
        clear h5 h2 b5e HSET
        go_enter Tryz.func13, Tryz.ntmps13
        go_wp2_with fail
        refine (HCL.out _).mono ?_
        rintro e wq ⟨rfl, rfl⟩
        go_wp2_with fail
        refine (HLV.out _ _ HS.out).mono ?_
        rintro e w3 ⟨rfl, S⟩
        have HS3 := Lib.hid S
        clear S
        go_wp2
        go_ret
        exact ⟨rfl, HS3.out⟩
set_option maxRecDepth 100000 in
set_option maxHeartbeats 8000000 in
theorem r22TakeS (code : Int) (hc1 : -9223372036854775808 ≤ code) (hc2 : code ≤ 9223372036854775807) (K : C.Ok) (J : C.Fit) (S : Sp w0 F0 w (r22R p C tv sv kv L)) : Calls Tryz.prog 13 #[.pointer (some ⟨p, 0, none⟩), .int .i64 code] w (OutRR w0 F0 L p tv sv kv (C.take code)) := by
  by_cases p4 : C.phase = 4
  · exact r22Take4 code hc1 hc2 K J p4 S
  by_cases p5 : C.phase = 5 ∨ C.phase = 6
  · exact r22Take5 code hc1 hc2 K p5 S
  have HCL := Lib.hid (fun w' => r10Class_any code w' hc1 hc2)
  by_cases p78 : C.phase = 7 ∨ C.phase = 8
  · have HV : Hid (C.take code = ({ C with phase := 8 }, [])) := by unfold Hid Cl.take; rw [if_neg p4, if_neg (by omega), if_neg (by omega), if_pos p78]
    have hor : ((C.phase == 0) = false ∧ (C.phase == 1) = false ∧ (C.phase == 2) = false ∧ (C.phase == 3) = false ∧ (C.phase == 4) = false ∧ (C.phase == 5) = false ∧ (C.phase == 6) = false) := by rcases p78 with h | h <;> rw [h] <;> decide
    obtain ⟨q0, q1, q2, q3, q4, q5, q6⟩ := hor
    have c0 := S.cell
    have f0 := S.free
    have HS8 := Lib.hid (S.set (o := 7) (.int .i64 8))
    unfold r22Cells at c0
    clear S K J p4 p5 p78
    generalize classC code = cls at *
    go_enter Tryz.func13, Tryz.ntmps13
    go_wp2_with fail
    refine (HCL.out _).mono ?_
    rintro e wq ⟨rfl, rfl⟩
    go_wp2
    go_ret
    rw [HV.out]
    exact ⟨rfl, HS8.out⟩
  have HV : Hid (C.take code = C.opening (classC code)) := by unfold Hid Cl.take; rw [if_neg p4, if_neg (by omega), if_neg (by omega), if_neg p78]
  have hp03 : C.phase = 0 ∨ C.phase = 1 ∨ C.phase = 2 ∨ C.phase = 3 := by have := K.ph0; have := K.ph8; omega
  have HO : Hid (C.opening (classC code) = if C.phase = 0 ∧ classC code = 2 then C.greet 2 1 else if C.phase = 1 ∧ classC code = 2 then C.mail C.body.length else if C.phase = 1 ∧ classC code = 5 then C.greet 1 2 else if C.phase = 1 then C.leave else if C.phase = 2 ∧ classC code = 2 then C.mail (-1) else if C.phase = 3 ∧ classC code = 2 then C.name else C.fail (classC code) Rc.waits) := rfl
  by_cases ht : classC code ≠ 2 ∧ C.phase ≠ 1
  · rw [HV.out, HO.out, if_neg (fun h => ht.1 h.2), if_neg (fun h => ht.1 h.2), if_neg (fun h => ht.2 h.1), if_neg ht.2, if_neg (fun h => ht.1 h.2), if_neg (fun h => ht.1 h.2)]
    exact r22Tail code hc1 hc2 K (by have := ht.2; omega) ht.1 S
  have HSD := Lib.hid (fun (x : Cm) (F : CmS x) (ph : Int) (w' : World) (S' : Sp w0 F0 w' (r22R p C tv sv kv L)) => r22SendS x ph S' F)
  have HLV := Lib.hid (r22LeaveS S)
  have HNX := Lib.hid (r22NextS (C := C) (fun r hr => by have := K.bx r hr; omega) (by have := K.n10; omega) (by have := K.atn; have := K.n10; omega) (J.acc (by omega)) S)
  have HQ : Hid (∀ x ph, (C.send x ph).1.tos = C.tos ∧ (C.send x ph).1.from_ = C.from_ ∧ (C.send x ph).1.body = C.body) := fun _ _ => ⟨rfl, rfl, rfl⟩
  have HK := Lib.hid K
  have HBL : Hid ((C.body.length : Int) ≤ 4096) := by have := K.body; unfold Hid; omega
  have hbl := HBL.out
  have HS := Lib.hid S
  have c0 := S.cell
  unfold r22Cells at c0
  rw [HV.out]
  clear S K J p4 p5 p78 HV
  generalize classC code = cls at *
  by_cases h2 : cls = 2
  · have b2 : (cls == 2) = true := by simpa using h2
    rcases hp03 with hp | hp | hp | hp
    · have q0 : (C.phase == 0) = true := by rw [hp]; rfl
      have HV : Hid (C.opening cls = C.send ⟨2, C.host, ([], []), 0, false⟩ 1) := by rw [Hid, HO.out, if_pos ⟨hp, h2⟩]; rfl
      have HSX := Lib.hid (HSD.out ⟨2, C.host, ([], []), 0, false⟩ ⟨by have := HK.out.host; show C.host.length ≤ _; omega, by simp, by simp, (show (-9223372036854775808 : Int) ≤ 0 by decide), (show (0 : Int) ≤ 9223372036854775807 by decide)⟩ 1)
      have HQX := Lib.hid (HQ.out ⟨2, C.host, ([], []), 0, false⟩ 1)
      rw [HV.out]
      unfold cmAgg at HSX
      dsimp only at HSX
      generalize C.send ⟨2, C.host, ([], []), 0, false⟩ 1 = q at *
      clear HO hp ht h2 HV
      go_enter Tryz.func13, Tryz.ntmps13
      go_wp2_with fail
      refine (HCL.out _).mono ?_
      rintro e wq ⟨rfl, rfl⟩
      go_wp2_with fail
      refine (HSX.out _ HS.out).mono ?_
      rintro e w2 ⟨rfl, S⟩
      have HS2 := Lib.hid S
      clear S
      go_wp2
      go_ret
      refine ⟨rfl, ?_⟩
      unfold r22R
      rw [HQX.out.1]
      exact HS2.out
    · have qn : (C.phase == 0) = false ∧ (C.phase == 1) = true := by rw [hp]; exact ⟨rfl, rfl⟩
      obtain ⟨q0, q1⟩ := qn
      have HV : Hid (C.opening cls = C.send ⟨3, [], C.from_, C.body.length, false⟩ 3) := by rw [Hid, HO.out, if_neg (by omega), if_pos ⟨hp, h2⟩]; rfl
      have HSX := Lib.hid (HSD.out ⟨3, [], C.from_, C.body.length, false⟩ ⟨by simp, by have := HK.out.fl; show C.from_.1.length ≤ _; omega, by have := HK.out.fd; show C.from_.2.length ≤ _; omega, (by show (-9223372036854775808 : Int) ≤ (C.body.length : Int); omega), (by show (C.body.length : Int) ≤ 9223372036854775807; omega)⟩ 3)
      have HQX := Lib.hid (HQ.out ⟨3, [], C.from_, C.body.length, false⟩ 3)
      rw [HV.out]
      unfold cmAgg at HSX
      have HSTF : Hid (∀ (D : Cl) (x : World), D.tos = C.tos → D.from_ = C.from_ → D.body = C.body → Sp w0 F0 x (r22R p D tv sv kv L) → x.cell? ⟨p, 1, none⟩ = some (.string ⟨C.from_.1.toArray⟩) ∧ x.cell? ⟨p, 2, none⟩ = some (.string ⟨C.from_.2.toArray⟩) ∧ x.cell? ⟨p, 6, none⟩ = some (.string ⟨C.body.toArray⟩)) := fun D x _ e2 e3 h => by
        rw [h.cell 1, h.cell 2, h.cell 6]
        unfold r22Cells
        rw [e2, e3]
        exact ⟨rfl, rfl, rfl⟩
      dsimp only at HSX HSTF
      generalize C.send ⟨3, [], C.from_, C.body.length, false⟩ 3 = q at *
      clear HO hp ht h2 HV HSD HNX HLV HQ
      go_enter Tryz.func13, Tryz.ntmps13
      go_wp2_with fail
      refine (HCL.out _).mono ?_
      rintro e wq ⟨rfl, rfl⟩
      go_wp2_with fail
      refine wp_region_chainG [0, 1, 2, 3, 4, 5, 6, 7, 8, 9, 10, 11, 12] (fun c => c == 11) (T := fun wx => wx.cell? ⟨p, 1, none⟩ = some (.string ⟨C.from_.1.toArray⟩) ∧ wx.cell? ⟨p, 2, none⟩ = some (.string ⟨C.from_.2.toArray⟩) ∧ wx.cell? ⟨p, 6, none⟩ = some (.string ⟨C.body.toArray⟩)) (S := fun wx => Sp w0 F0 wx (r22R p C tv sv kv L)) (by kernel_rfl) (by kernel_rfl) HS.out.drew (fun x h => HSTF.out C x rfl rfl rfl h) ?_
      repeat
        refine Exists.intro _ (And.intro rfl (Or.inl (Exists.intro ?_ (And.intro (fun wS hS K hK => ?_) (And.intro ?_ ?_)))))
        rotate_left 1
        · obtain ⟨t0, t1, t2⟩ := hS
          first
            | (refine if_unwanted rfl ?_; simp only [Act.put, List.setIfInBounds_toArray, List.set_cons_zero, List.set_cons_succ]; exact hK.out)
            | (refine if_wanted rfl ?_; go_simp; exact hK.out)
        · rfl
      refine ChainG.one rfl rfl rfl (fun wS hS R hR => ?_)
      go_simp
      go_at_call 42
      refine (HSX.out wS hS).mono ?_
      rintro e w7 ⟨rfl, S7⟩
      refine hR.out _ _ rfl (fun wx => wx.cell? ⟨p, 1, none⟩ = some (.string ⟨C.from_.1.toArray⟩) ∧ wx.cell? ⟨p, 2, none⟩ = some (.string ⟨C.from_.2.toArray⟩) ∧ wx.cell? ⟨p, 6, none⟩ = some (.string ⟨C.body.toArray⟩)) (fun wx => Sp w0 F0 wx (r22R p q.1 tv sv kv L)) (by unfold r22R; rw [HQX.out.1]; exact S7) (fun x h => HSTF.out q.1 x HQX.out.1 HQX.out.2.1 HQX.out.2.2 h) (fun _ h => h) ?_
      clear hR hS S7
      repeat
        refine Exists.intro _ (And.intro rfl (Or.inl (Exists.intro ?_ (And.intro (fun wS hS K hK => ?_) (And.intro ?_ ?_)))))
        rotate_left 1
        · obtain ⟨t0, t1, t2⟩ := hS
          first
            | (refine if_unwanted rfl ?_; simp only [Act.put, List.setIfInBounds_toArray, List.set_cons_zero, List.set_cons_succ]; exact hK.out)
            | (refine if_wanted rfl ?_; go_simp; exact hK.out)
        · rfl
      intro wE hE
      have HSE := Lib.hid hE
      clear hE
      go_wp2
      go_ret
      exact ⟨rfl, HSE.out⟩
    · have qn : (C.phase == 0) = false ∧ (C.phase == 1) = false ∧ (C.phase == 2) = true := by rw [hp]; exact ⟨rfl, rfl, rfl⟩
      obtain ⟨q0, q1, q2⟩ := qn
      have HV : Hid (C.opening cls = C.send ⟨3, [], C.from_, -1, false⟩ 3) := by rw [Hid, HO.out, if_neg (by omega), if_neg (by omega), if_neg (by omega), if_neg (by omega), if_pos ⟨hp, h2⟩]; rfl
      have HSX := Lib.hid (HSD.out ⟨3, [], C.from_, -1, false⟩ ⟨by simp, by have := HK.out.fl; show C.from_.1.length ≤ _; omega, by have := HK.out.fd; show C.from_.2.length ≤ _; omega, (show (-9223372036854775808 : Int) ≤ -1 by decide), (show (-1 : Int) ≤ 9223372036854775807 by decide)⟩ 3)
      have HQX := Lib.hid (HQ.out ⟨3, [], C.from_, -1, false⟩ 3)
      rw [HV.out]
      unfold cmAgg at HSX
      dsimp only at HSX
      generalize C.send ⟨3, [], C.from_, -1, false⟩ 3 = q at *
      clear HO hp ht h2 HV
      go_enter Tryz.func13, Tryz.ntmps13
      go_wp2_with fail
      refine (HCL.out _).mono ?_
      rintro e wq ⟨rfl, rfl⟩
      go_wp2_with fail
      refine (HSX.out _ HS.out).mono ?_
      rintro e w2 ⟨rfl, S⟩
      have HS2 := Lib.hid S
      clear S
      go_wp2
      go_ret
      refine ⟨rfl, ?_⟩
      unfold r22R
      rw [HQX.out.1]
      exact HS2.out
    · have qn : (C.phase == 0) = false ∧ (C.phase == 1) = false ∧ (C.phase == 2) = false ∧ (C.phase == 3) = true := by rw [hp]; exact ⟨rfl, rfl, rfl, rfl⟩
      obtain ⟨q0, q1, q2, q3⟩ := qn
      have HV : Hid (C.opening cls = C.name) := by rw [Hid, HO.out, if_neg (by omega), if_neg (by omega), if_neg (by omega), if_neg (by omega), if_neg (by omega), if_pos ⟨hp, h2⟩]
      rw [HV.out]
      clear HO hp ht h2 HV
      go_enter Tryz.func13, Tryz.ntmps13
      go_wp2_with fail
      refine (HCL.out _).mono ?_
      rintro e wq ⟨rfl, rfl⟩
      go_wp2_with fail
      refine HNX.out.mono ?_
      rintro e w2 ⟨rfl, S⟩
      have HS2 := Lib.hid S
      clear S
      go_wp2
      go_ret
      exact ⟨rfl, HS2.out⟩
  · have b2 : (cls == 2) = false := by simpa using h2
    have hp : C.phase = 1 := by omega
    have qn : (C.phase == 0) = false ∧ (C.phase == 1) = true ∧ decide ((5 : Int) ≤ C.phase) = false := by rw [hp]; exact ⟨rfl, rfl, rfl⟩
    obtain ⟨q0, q1, qg⟩ := qn
    by_cases h5 : cls = 5
    · have b5 : (cls == 5) = true := by simpa using h5
      have HV : Hid (C.opening cls = C.send ⟨1, C.host, ([], []), 0, false⟩ 2) := by rw [Hid, HO.out, if_neg (by omega), if_neg (by omega), if_pos ⟨hp, h5⟩]; rfl
      have HSX := Lib.hid (HSD.out ⟨1, C.host, ([], []), 0, false⟩ ⟨by have := HK.out.host; show C.host.length ≤ _; omega, by simp, by simp, (show (-9223372036854775808 : Int) ≤ 0 by decide), (show (0 : Int) ≤ 9223372036854775807 by decide)⟩ 2)
      have HQX := Lib.hid (HQ.out ⟨1, C.host, ([], []), 0, false⟩ 2)
      rw [HV.out]
      unfold cmAgg at HSX
      dsimp only at HSX
      generalize C.send ⟨1, C.host, ([], []), 0, false⟩ 2 = q at *
      clear HO hp ht h2 h5 HV hp03
      go_enter Tryz.func13, Tryz.ntmps13
      go_wp2_with fail
      refine (HCL.out _).mono ?_
      rintro e wq ⟨rfl, rfl⟩
      go_wp2_with fail
      refine (HSX.out _ HS.out).mono ?_
      rintro e w2 ⟨rfl, S⟩
      have HS2 := Lib.hid S
      clear S
      go_wp2
      go_ret
      refine ⟨rfl, ?_⟩
      unfold r22R
      rw [HQX.out.1]
      exact HS2.out
    · have b5 : (cls == 5) = false := by simpa using h5
      have HV : Hid (C.opening cls = C.leave) := by rw [Hid, HO.out, if_neg (by omega), if_neg (by omega), if_neg (by omega), if_pos hp]
      rw [HV.out]
      clear HO hp ht h2 h5 HV hp03
      go_enter Tryz.func13, Tryz.ntmps13
      go_wp2_with fail
      refine (HCL.out _).mono ?_
      rintro e wq ⟨rfl, rfl⟩
      go_wp2_with fail
      refine HLV.out.mono ?_
      rintro e w2 ⟨rfl, S⟩
      have HS2 := Lib.hid S
      clear S
      go_wp2
      go_ret
      exact ⟨rfl, HS2.out⟩
end
end Go.Proofs.YtldlbiodllgflaaGreatDoor

/-! R22d -/
namespace Go.Proofs.YtldlbiodllgflaaGreatDoor
open Go.RowKit

theorem fit_same {C D : Cl} (h : C.Fit) (ht : D.tos = C.tos) (ha : D.at_ = C.at_) (hp : C.phase < 6) : D.Fit := fun _ i r hr => by
  rw [ht] at hr
  rw [ha]
  exact h hp i r hr
theorem fit_late {D : Cl} (h : 6 ≤ D.phase) : D.Fit := fun hp => absurd hp (by omega)
theorem fit_name {C : Cl} (h : C.Fit) (hp : C.phase < 6) : C.name.1.Fit := fit_same h (name_phase C).2.2 (name_phase C).2.1 hp
theorem fit_take {C : Cl} (h : C.Fit) (K : C.Ok) (code : Int) : (C.take code).1.Fit := by
  unfold Cl.take
  split
  · rename_i hp
    refine fit_name (C := { C with tos := C.tos.modify C.at_ (·.told (classC code)), at_ := C.at_ + 1 }) ?_ (by show C.phase < 6; omega)
    intro _ i r hr
    dsimp only at hr ⊢
    rw [List.getElem?_modify] at hr
    cases hi : C.tos[i]? with
    | none => rw [hi] at hr; simp at hr
    | some x =>
      rw [hi] at hr
      obtain ⟨h1, h2⟩ := h (by omega) i x hi
      by_cases e : C.at_ = i
      · simp only [e, if_true, Option.map_eq_map, Option.map_some, Option.some.injEq] at hr
        obtain ⟨a0, s0⟩ := h2 (by omega)
        refine ⟨fun ha => ?_, fun hge => by omega⟩
        subst hr
        unfold Rc.told at ha ⊢
        split at ha
        · rename_i hc; rw [if_pos hc]; exact s0
        · split at ha
          · rw [a0] at ha; cases ha
          · rw [a0] at ha; cases ha
      · simp only [e, if_false, Option.map_eq_map, Option.map_some, id, Option.some.injEq] at hr
        subst hr
        exact ⟨h1, fun hge => h2 (by omega)⟩
  · split
    · split
      · exact fit_late (by decide : (6 : Int) ≤ 6)
      · exact fit_late (by rw [(fail_phase _ _ _).1]; decide)
    · split
      · exact fit_late (by rw [(fail_phase _ _ _).1]; decide)
      · split
        · exact fit_late (by decide : (6 : Int) ≤ 8)
        · have hp : C.phase < 6 := by have := K.ph8; omega
          unfold Cl.opening
          repeat' split
          all_goals first
            | exact fit_same h rfl rfl hp
            | exact fit_name h hp
            | exact fit_late (by decide : (6 : Int) ≤ 7)
            | exact fit_late (by rw [(fail_phase _ _ _).1]; decide)
theorem fit_new {host body : Bs} {fr : Mb} {l : List Mb} : Cl.Fit ⟨host, fr, l.map rc0, body, 0, 0⟩ := fun _ i r hr => by
  dsimp only at hr
  rw [List.getElem?_map] at hr
  cases hi : l[i]? with
  | none => rw [hi] at hr; simp at hr
  | some b =>
    rw [hi] at hr
    simp only [Option.map_some, Option.some.injEq] at hr
    subst hr
    exact ⟨fun h => (by cases h), fun _ => ⟨rfl, rfl⟩⟩
section
variable {w0 w : World} {F0 : List Nat} {L : List Res} {p b : Nat} {v tv sv kv : Value} {C : Cl}
/-- What New hands back. -/
def OutNR (w0 : World) (F0 : List Nat) (L : List Res) (o : Option Cl × Int) (e : Ending) (w2 : World) : Prop :=
  match o.1 with
  | some C => ∃ p tv sv kv, e = .returned (.tuple #[.pointer (some ⟨p, 0, none⟩), .int .i64 o.2]) ∧ Sp w0 F0 w2 (r22R p C tv sv kv L)
  | none => e = .returned (.tuple #[.pointer none, .int .i64 o.2]) ∧ Sp w0 F0 w2 L
theorem BxAt.cells {off n cap i : Nat} {l : List Mb} (h : BxAt w (.slice (some ⟨b, off, none⟩) n cap) l) (hi : i < l.length) : w.cell? ⟨b, off + i * 2, none⟩ = some (.string ⟨l[i].1.toArray⟩) ∧ w.cell? ⟨b, off + i * 2 + 1, none⟩ = some (.string ⟨l[i].2.toArray⟩) := by
  obtain ⟨b2, o2, h1, h2⟩ := h.at hi
  cases h1
  exact h2
theorem infoBool : (Tryz.prog.info? 4).map (fun i => (i.zero, i.size, i.bytes)) = some (some (.bool false), 1, 1) := by kernel_rfl
theorem infoR09 : (Tryz.prog.info? 37).map (fun i => (i.zero, i.size, i.bytes)) = some (some (.agg #[.string ⟨#[]⟩, .string ⟨#[]⟩]), 2, 32) := by kernel_rfl
theorem Sp.appendBool (ty : TypeId) {l : List Bool} (x : Bool) (hn : l.length < 10000000000) (S : Sp w0 F0 w (boxR b #[.bool x] 4 :: boolsR v l :: L)) :
    ∃ g cap w2, (Builtin.append_ #[39, 39] ty #[v, .slice (some ⟨b, 0, none⟩) 1 1]).run Tryz.prog w = .ok (.slice (some ⟨g, 0, none⟩) (l.length + 1) cap) w2 ∧ Sp w0 F0 w2 (boolsR (.slice (some ⟨g, 0, none⟩) (l.length + 1) cap) (l ++ [x]) :: L) := by
  obtain ⟨g, cap, w2, h1, S2⟩ := Sp.appendOne 39 ty #[.bool x] _ 1 infoBool rfl Tryz.underlying39 (by decide) (by decide) rfl (by simp [Value.oneCell']) hn S
  refine ⟨g, cap, w2, h1, ?_⟩
  have e1 : (l ++ [x]).map (fun z => (.bool z : Value)) = l.map (fun z => (.bool z : Value)) ++ [.bool x] := by simp
  have e2 : (l ++ [x]).length = l.length + 1 := by simp
  unfold boolsR
  rw [e1, e2]
  exact S2.drop
theorem Sp.appendBx (ty : TypeId) {l : List Mb} (x : Mb) (hn : l.length < 10000000000) (S : Sp w0 F0 w (boxR b (mbCells x) 37 :: rbxR v l :: L)) :
    ∃ g cap w2, (Builtin.append_ #[38, 38] ty #[v, .slice (some ⟨b, 0, none⟩) 1 1]).run Tryz.prog w = .ok (.slice (some ⟨g, 0, none⟩) (l.length + 1) cap) w2 ∧ Sp w0 F0 w2 (rbxR (.slice (some ⟨g, 0, none⟩) (l.length + 1) cap) (l ++ [x]) :: L) := by
  obtain ⟨g, cap, w2, h1, S2⟩ := Sp.appendOne 38 ty (mbCells x) _ 32 infoR09 rfl Tryz.underlying38 (by decide) (by decide) rfl (by simp [mbCells, Value.oneCell']) hn S
  refine ⟨g, cap, w2, h1, ?_⟩
  have e1 : ((l ++ [x]).map Mb.vals).flatten = (l.map Mb.vals).flatten ++ x.vals := by simp
  have e2 : (l ++ [x]).length = l.length + 1 := by simp
  unfold rbxR
  rw [e1, e2]
  exact S2.drop
theorem Sp.appendBxN (ty : TypeId) {l : List Mb} {n : Nat} (hl : l.length = n) (x : Mb) (hn : n < 10000000000) (S : Sp w0 F0 w (boxR b (mbCells x) 37 :: rowR 37 2 v n (l.map Mb.vals).flatten :: L)) :
    ∃ g cap w2, (Builtin.append_ #[38, 38] ty #[v, .slice (some ⟨b, 0, none⟩) 1 1]).run Tryz.prog w = .ok (.slice (some ⟨g, 0, none⟩) (n + 1) cap) w2 ∧ Sp w0 F0 w2 (rowR 37 2 (.slice (some ⟨g, 0, none⟩) (n + 1) cap) (n + 1) ((l ++ [x]).map Mb.vals).flatten :: L) := by
  subst hl
  obtain ⟨g, cap, w2, h1, h2⟩ := Sp.appendBx ty x hn S
  refine ⟨g, cap, w2, h1, ?_⟩
  unfold rbxR at h2
  rw [show (l ++ [x]).length = l.length + 1 by simp] at h2
  exact h2
theorem Sp.appendIntN (ty : TypeId) {l : List Int} {n : Nat} (hl : l.length = n) (x : Int) (hn : n < 10000000000) (S : Sp w0 F0 w (boxR b #[.int .i64 x] 3 :: rowR 3 1 v n (l.map fun z => .int .i64 z) :: L)) :
    ∃ g cap w2, (Builtin.append_ #[25, 25] ty #[v, .slice (some ⟨b, 0, none⟩) 1 1]).run Tryz.prog w = .ok (.slice (some ⟨g, 0, none⟩) (n + 1) cap) w2 ∧ Sp w0 F0 w2 (rowR 3 1 (.slice (some ⟨g, 0, none⟩) (n + 1) cap) (n + 1) ((l ++ [x]).map fun z => .int .i64 z) :: L) := by
  subst hl
  obtain ⟨g, cap, w2, h1, h2⟩ := Sp.appendInt ty x hn S
  refine ⟨g, cap, w2, h1, ?_⟩
  unfold intsR at h2
  rw [show (l ++ [x]).length = l.length + 1 by simp] at h2
  exact h2
theorem Sp.appendBoolN (ty : TypeId) {l : List Bool} {n : Nat} (hl : l.length = n) (x : Bool) (hn : n < 10000000000) (S : Sp w0 F0 w (boxR b #[.bool x] 4 :: rowR 4 1 v n (l.map fun z => .bool z) :: L)) :
    ∃ g cap w2, (Builtin.append_ #[39, 39] ty #[v, .slice (some ⟨b, 0, none⟩) 1 1]).run Tryz.prog w = .ok (.slice (some ⟨g, 0, none⟩) (n + 1) cap) w2 ∧ Sp w0 F0 w2 (rowR 4 1 (.slice (some ⟨g, 0, none⟩) (n + 1) cap) (n + 1) ((l ++ [x]).map fun z => .bool z) :: L) := by
  subst hl
  obtain ⟨g, cap, w2, h1, h2⟩ := Sp.appendBool ty x hn S
  refine ⟨g, cap, w2, h1, ?_⟩
  unfold boolsR at h2
  rw [show (l ++ [x]).length = l.length + 1 by simp] at h2
  exact h2
theorem rep_snoc {α : Type} (k : Nat) (x : α) : List.replicate (k + 1) x = List.replicate k x ++ [x] := by
  rw [← List.replicate_append_replicate]
  rfl
theorem r22N_made {host body : Bs} {fr : Mb} {l : List Mb} : r22N p l.length ⟨host, fr, [], body, 0, 0⟩ tv sv kv l (List.replicate l.length 0) (List.replicate l.length false) L = r22R p ⟨host, fr, l.map rc0, body, 0, 0⟩ tv sv kv L := by
  rw [r22N_eq]
  dsimp only
  rw [List.length_map, List.map_map, List.map_map, List.map_map]
  have e1 : l.map (Rc.box ∘ rc0) = l := by
    conv => rhs; rw [← List.map_id l]
    rfl
  have e2 : l.map (Rc.state ∘ rc0) = List.replicate l.length 0 := by rw [← List.map_const']; rfl
  have e3 : l.map (Rc.acc ∘ rc0) = List.replicate l.length false := by rw [← List.map_const']; rfl
  rw [e1, e2, e3]
  rfl
set_option maxRecDepth 100000 in
set_option maxHeartbeats 1000000 in
theorem r22box_any (m : Mb) (w : World) : Calls Tryz.prog 33 #[mbAgg m] w fun e w2 => e = .returned (mbAgg m) ∧ Ext [] w w2 := by
  obtain ⟨l, d⟩ := m
  have HS0 := Lib.hid (((Sp.nil w []).box (mbCells (l, d)) 23).box #[.string ⟨#[]⟩, .string ⟨#[]⟩] 37)
  unfold mbCells at HS0
  unfold mbAgg
  dsimp only at *
  have hsz : (w.alloc (.cells #[.string ⟨l.toArray⟩, .string ⟨d.toArray⟩] 23)).heap.size = w.heap.size + 1 := by simp
  rw [hsz] at HS0
  go_enter Tryz.func33, Tryz.ntmps33
  go_upto_region 1 with (fail)
  generalize (w.alloc (.cells #[.string ⟨l.toArray⟩, .string ⟨d.toArray⟩] 23)).alloc (.cells #[.string ⟨#[]⟩, .string ⟨#[]⟩] 37) = w1 at *
  generalize w.heap.size + 1 = q1 at *
  generalize w.heap.size = q0 at *
  have c0 := HS0.out.pull1.cell
  have d0 := HS0.out.cell
  have f0 := HS0.out.free
  have l0 := HS0.out.boxlt
  have HS6 := Lib.hid ((HS0.out.set (o := 0) (.string ⟨l.toArray⟩)).set (o := 1) (.string ⟨d.toArray⟩))
  go_wp2
  exact bodyPost_ret (v := .agg #[.string ⟨l.toArray⟩, .string ⟨d.toArray⟩]) (by simp [results, Tryz.results33, go_sem, d0]) rfl ⟨rfl, HS6.out.ext⟩
set_option maxRecDepth 100000 in
set_option maxHeartbeats 8000000 in
theorem r22New_any (host : Bs) (fr : Mb) (tv : Value) (to_ : List Mb) (body : Bs) (hh : host.length ≤ 300) (h1 : fr.1.length ≤ 300) (h2 : fr.2.length ≤ 300) (hb : body.length ≤ 4096) (htl : to_.length ≤ 100) (ht : ∀ b ∈ to_, b.1.length ≤ 300 ∧ b.2.length ≤ 300)
    (T : BxAt w tv to_) : Calls Tryz.prog 11 #[.string ⟨host.toArray⟩, mbAgg fr, tv, .string ⟨body.toArray⟩] w (OutNR w [] [] (clNew host fr to_ body)) := by
  have HC : Hid (clNew host fr to_ body = if (domV host).2 ≠ 0 ∨ (domV host).1 ≠ host ∨ (noBoxE fr = false ∧ mbMay fr = false) ∨ to_.length = 0 ∨ 10 < to_.length then (none, 1)
  else if to_.all mbMay = false then (none, 1)
  else if bodyOk body = false then (none, 2)
  else (some ⟨host, fr, to_.map rc0, body, 0, 0⟩, 0)) := rfl
  have HB := Lib.hid hb
  have HTB := Lib.hid ht
  have HS0 := Lib.hid ((Sp.nil w []).box (mbCells fr) 23)
  have HT := Lib.hid T
  have HMF := Lib.hid (fun w' => r22box_any fr w')
  have HMY := Lib.hid (fun (w' : World) (L' : List Res) (S' : Sp w [] w' L') => r09MayS fr S' (by show fr.1.length ≤ _; omega) (by show fr.2.length ≤ _; omega))
  have HDM := Lib.hid (fun (w' : World) (L' : List Res) (S' : Sp w [] w' L') => r09DomainS host S' (by omega))
  obtain ⟨a, cap, rfl⟩ := T.form
  have hln : (to_.length : Int) ≤ 100 := by omega
  unfold mbAgg at HMF HMY ⊢
  unfold mbCells at HS0
  obtain ⟨fl, fd⟩ := fr
  dsimp only at *
  have i1 : (fl.length : Int) ≤ 300 := by omega
  have i2 : (fd.length : Int) ≤ 300 := by omega
  have HNB : Hid (noBoxE (fl, fd) = ((fl.length : Int) + fd.length == 0)) := by
    rw [Hid, Bool.eq_iff_iff, beq_iff_eq]
    unfold noBoxE
    rw [Bool.and_eq_true, beq_iff_eq, beq_iff_eq]
    constructor
    · rintro ⟨rfl, rfl⟩; rfl
    · intro h
      exact ⟨List.eq_nil_of_length_eq_zero (by show fl.length = 0; omega), List.eq_nil_of_length_eq_zero (by show fd.length = 0; omega)⟩
  clear T hb h1 h2 ht htl
  generalize hdv : domV host = dv at *
  clear hdv
  obtain ⟨dh, de⟩ := dv
  dsimp only at *
  rw [HNB.out] at HC
  by_cases hbad : de ≠ 0 ∨ dh ≠ host ∨ (((fl.length : Int) + fd.length == 0) = false ∧ mbMay (fl, fd) = false) ∨ to_.length = 0 ∨ 10 < to_.length
  · have HV : Hid (clNew host (fl, fd) to_ body = (none, 1)) := by rw [Hid, HC.out, if_pos hbad]
    rw [HV.out]
    clear HC HV
    have hor : (de != 0) = true ∨ ((de != 0) = false ∧ (dh != host) = true) ∨ ((de != 0) = false ∧ (dh != host) = false ∧ ((fl.length : Int) + fd.length == 0) = true ∧ (to_.length : Int) < 1) ∨ ((de != 0) = false ∧ (dh != host) = false ∧ ((fl.length : Int) + fd.length == 0) = true ∧ (1 : Int) ≤ to_.length ∧ (10 : Int) < to_.length) ∨ ((de != 0) = false ∧ (dh != host) = false ∧ ((fl.length : Int) + fd.length == 0) = false ∧ (mbMay (fl, fd) = false ∨ (mbMay (fl, fd) = true ∧ (to_.length : Int) < 1) ∨ (mbMay (fl, fd) = true ∧ (1 : Int) ≤ to_.length ∧ (10 : Int) < to_.length))) := by
      by_cases a1 : de = 0
      · by_cases a2 : dh = host
        · have e1 : (de != 0) = false := by simp [a1]
          have e2 : (dh != host) = false := by simp [a2]
          cases a3 : ((fl.length : Int) + fd.length == 0) with
          | true =>
            rcases hbad with h | h | h | h | h
            · exact absurd a1 h
            · exact absurd a2 h
            · rw [a3] at h; cases h.1
            · exact .inr (.inr (.inl ⟨e1, e2, rfl, by omega⟩))
            · exact .inr (.inr (.inr (.inl ⟨e1, e2, rfl, by omega, by omega⟩)))
          | false =>
            refine .inr (.inr (.inr (.inr ⟨e1, e2, rfl, ?_⟩)))
            cases a4 : mbMay (fl, fd) with
            | false => exact .inl rfl
            | true =>
              rcases hbad with h | h | h | h | h
              · exact absurd a1 h
              · exact absurd a2 h
              · rw [a4] at h; cases h.2
              · exact .inr (.inl ⟨rfl, by omega⟩)
              · exact .inr (.inr ⟨rfl, by omega, by omega⟩)
        · exact .inr (.inl ⟨by simp [a1], by simpa using a2⟩)
      · exact .inl (by simpa using a1)
    clear hbad HNB
    go_enter Tryz.func11, Tryz.ntmps11
    go_upto_region 1 with (fail)
    generalize w.alloc (.cells #[.string ⟨_⟩, .string ⟨_⟩] 23) = w1 at *
    generalize w.heap.size = q5 at *
    go_wp2_with fail
    refine (HDM.out _ _ HS0.out).mono ?_
    rintro e w2 ⟨rfl, S⟩
    have HS2 := Lib.hid S
    have c2 := S.cell
    clear S HS0 HDM
    go_upto_region 3 with (fail)
    generalize ((fl.length : Int) + fd.length == 0) = nn at *
    rcases hor with e1 | ⟨e1, e2⟩ | ⟨e1, e2, e3, e4⟩ | ⟨e1, e2, e3, e4, e5⟩ | ⟨e1, e2, e3, e4⟩
    · go_wp2
      go_ret2
      exact ⟨rfl, HS2.out.drop⟩
    · have e3 : ¬ dh = host := by simpa using e2
      clear e2
      go_wp2
      go_ret2
      exact ⟨rfl, HS2.out.drop⟩
    · obtain rfl : dh = host := by simpa using e2
      subst e3
      go_wp2
      go_ret2
      exact ⟨rfl, HS2.out.drop⟩
    · obtain rfl : dh = host := by simpa using e2
      subst e3
      go_wp2
      go_ret2
      exact ⟨rfl, HS2.out.drop⟩
    · obtain rfl : dh = host := by simpa using e2
      subst e3
      have E4 := Lib.hid e4
      clear e4
      go_wp2_with fail
      refine (HMF.out _).mono ?_
      rintro e w3 ⟨rfl, hx⟩
      have HS3 := Lib.hid (HS2.out.ext0 hx)
      clear hx
      go_wp2_with fail
      refine (HMY.out _ _ HS3.out).mono ?_
      have e4 := E4.out
      clear E4
      rcases e4 with e4 | ⟨e4, e5⟩ | ⟨e4, e5, e6⟩
      all_goals
        rw [e4]
        clear e4
        rintro e w4 ⟨rfl, S⟩
        have HS4 := Lib.hid S
        clear S
        go_wp2
        go_ret2
        exact ⟨rfl, HS4.out.drop⟩
  · have HV : Hid (clNew host (fl, fd) to_ body = if to_.all mbMay = false then (none, 1) else if bodyOk body = false then (none, 2) else (some ⟨host, (fl, fd), to_.map rc0, body, 0, 0⟩, 0)) := by rw [Hid, HC.out, if_neg hbad]
    have e1 : (de != 0) = false := by
      by_cases a1 : de = 0
      · simp [a1]
      · exact absurd (.inl a1) hbad
    have e2 : (dh != host) = false := by
      by_cases a1 : dh = host
      · simp [a1]
      · exact absurd (.inr (.inl a1)) hbad
    have l1 : (1 : Int) ≤ to_.length := by
      have : to_.length ≠ 0 := fun h => hbad (.inr (.inr (.inr (.inl h))))
      omega
    have l2 : (to_.length : Int) ≤ 10 := by
      have : ¬ 10 < to_.length := fun h => hbad (.inr (.inr (.inr (.inr h))))
      omega
    have h3 : ((fl.length : Int) + fd.length == 0) = true ∨ (((fl.length : Int) + fd.length == 0) = false ∧ mbMay (fl, fd) = true) := by
      cases a3 : ((fl.length : Int) + fd.length == 0) with
      | true => exact .inl rfl
      | false =>
        cases a4 : mbMay (fl, fd) with
        | true => exact .inr ⟨rfl, rfl⟩
        | false => exact absurd (.inr (.inr (.inl ⟨a3, a4⟩))) hbad
    clear hbad HC HNB
    go_enter Tryz.func11, Tryz.ntmps11
    go_upto_region 1 with (fail)
    generalize w.alloc (.cells #[.string ⟨_⟩, .string ⟨_⟩] 23) = w1 at *
    generalize w.heap.size = q5 at *
    go_wp2_with fail
    refine (HDM.out _ _ HS0.out).mono ?_
    rintro e w2 ⟨rfl, S⟩
    have HS2 := Lib.hid S
    have c2 := S.cell
    clear S HS0 HDM
    go_upto_region 3 with (fail)
    generalize ((fl.length : Int) + fd.length == 0) = nn at *
    have hx2 : dh = host := by simpa using e2
    obtain rfl := hx2.symm
    clear hx2
    go_cut [57] (fun v wx => v = .bool false ∧ Sp w [] wx [boxR q5 #[.string ⟨fl.toArray⟩, .string ⟨fd.toArray⟩] 23])
    case first => --dev
      rcases h3 with e3 | ⟨e3, e4⟩
      · subst e3
        go_wp2_with fail
        go_meet
        exact ⟨by rw [decide_eq_false (by omega), decide_eq_false (by omega)]; rfl, HS2.out⟩
      · subst e3
        have E4 := Lib.hid e4
        clear e4
        go_wp2_with fail
        refine (HMF.out _).mono ?_
        rintro e w3 ⟨rfl, hx⟩
        have HS3 := Lib.hid (HS2.out.ext0 hx)
        clear hx
        go_wp2_with fail
        refine (HMY.out _ _ HS3.out).mono ?_
        rw [E4.out]
        rintro e w4 ⟨rfl, S⟩
        have HS4 := Lib.hid S
        clear S
        go_wp2_with fail
        go_meet
        exact ⟨by rw [decide_eq_false (by omega), decide_eq_false (by omega)]; rfl, HS4.out⟩
    case rest =>
      obtain ⟨rfl, S⟩ := hcut
      have HS4 := Lib.hid S
      have HD := HV
      have c4 := S.cell
      clear S HMY HS2 c2
      go_wp2_with fail
      refine (HMF.out _).mono ?_
      rintro e w5 ⟨rfl, hx⟩
      have hx5 := (((((HS4.out.ext0 hx).drop.box (r22Cells ⟨host, (fl, fd), [], body, 0, 0⟩ (.slice none 0 0) (.slice none 0 0) (.slice none 0 0)) 41).rowNil 4 1).rowNil 3 1).rowNil 37 2)
      have HS6 := Lib.hid ((Sp.pick [_, _, _, _] [3, 0, 1, 2] (by decide) (hx5)))
      clear hx c4 hx5
      unfold r22Cells at HS6
      dsimp only at HS6
      go_wp2_with fail
      generalize w5.alloc (.cells #[.string ⟨_⟩, .string ⟨_⟩, .string ⟨_⟩, .slice none 0 0, .slice none 0 0, .slice none 0 0, .string ⟨_⟩, .int .i64 0, .int .i64 0] 41) = w6 at *
      generalize w5.heap.size = q at *
      go_loopw [14] (fun i wr => ∃ (k : Nat) (v1 v2 v3 : Value), i = .int .i64 k ∧ k ≤ to_.length ∧ (to_.take k).all mbMay = true ∧ Sp w [] wr (r22N q k ⟨host, (fl, fd), [], body, 0, 0⟩ v1 v2 v3 (to_.take k) (List.replicate k 0) (List.replicate k false) [])) (fun i _ => to_.length - (intOf i).toNat)
      case atStart => exact ⟨0, _, _, _, rfl, Nat.zero_le _, rfl, HS6.out⟩
      case round =>
        clear HS6
        obtain ⟨k, v1, v2, v3, rfl, hk, hall, S⟩ := hrel
        have HS := Lib.hid S
        have HALL := Lib.hid hall
        have HT1 := Lib.hid (HT.out.ext S.ext)
        clear S hall
        by_cases hlt : k < to_.length
        · have hlt' : (k : Int) < to_.length := by omega
          obtain ⟨b, off, rfl, k0, k1⟩ := HT1.out.at hlt
          have HBL := Lib.hid (HTB.out _ (List.getElem_mem hlt))
          have HST : Hid (to_.take (k + 1) = to_.take k ++ [to_[k]]) := List.take_succ_eq_append_getElem hlt
          have HNO : Hid (mbMay to_[k] = false → to_.all mbMay = false) := fun h => by
            rw [← Bool.not_eq_true, List.all_eq_true]
            intro h2
            have := h2 to_[k] (List.getElem_mem hlt)
            rw [h] at this
            cases this
          have HKC := Lib.hid (fun (wx : World) (hx : Ext [] w wx) => (HT.out.ext hx).cells hlt)
          have HLN : Hid ((to_.take k).length = k) := by unfold Hid; rw [List.length_take]; omega
          have HMB := Lib.hid (fun w' => r22box_any to_[k] w')
          have HMM := Lib.hid (fun (w' : World) (L' : List Res) (S' : Sp w [] w' L') => r09MayS to_[k] S' (by have := HBL.out; omega) (by have := HBL.out; omega))
          unfold mbAgg at HMB HMM
          generalize to_[k] = m at *
          generalize hrs : to_.take k = rs at *
          have HRS := Lib.hid hrs
          clear hrs
          obtain ⟨bl, bd⟩ := m
          dsimp only at *
          go_wp2_with fail
          refine (HMB.out _).mono ?_
          rintro e w7 ⟨rfl, hx⟩
          have HS7 := Lib.hid (HS.out.ext0 hx)
          clear hx HS
          go_wp2_with fail
          refine (HMM.out _ _ HS7.out).mono ?_
          cases hm : mbMay (bl, bd) with
          | false =>
            have HN := Lib.hid (HNO.out hm)
            have HV : Hid (clNew host (fl, fd) to_ body = (none, 1)) := by unfold Hid; rw [HD.out, if_pos HN.out]
            rintro e w8 ⟨rfl, S⟩
            have HS8 := Lib.hid S
            clear S hm
            go_wp2
            go_ret2
            rw [HV.out]
            exact ⟨rfl, HS8.out.drop.drop.drop.drop⟩
          | true =>
            have HM := Lib.hid hm
            rintro e w8 ⟨rfl, S⟩
            have HS8 := Lib.hid S
            have c8 := S.cell
            obtain ⟨k0, k1⟩ := HKC.out _ S.ext
            clear S hm HS7
            unfold r22Cells at c8
            dsimp only at c8
            go_wp2_with fail
            go_cut [] (fun wx => ∃ v1, Sp w [] wx (r22N q k ⟨host, (fl, fd), [], body, 0, 0⟩ v1 v2 v3 [] (List.replicate k 0) (List.replicate k false) [] |>.set 1 (rowR 37 2 v1 (k + 1) ((rs ++ [(bl, bd)]).map Mb.vals).flatten)))
            case first => --dev
              go_region_law (first
                | (refine if_wanted rfl ?_; go_simp; go_at_call 33; refine (HMB.out _).mono ?_; rintro e w9 ⟨rfl, hx⟩; have HS9 := Lib.hid (HS8.out.drew.ext0 hx); have d9 := HS9.out.cell; have f9 := HS9.out.free; obtain ⟨gg, cap2, w10, hrun, S10⟩ := Sp.appendBxN 38 HLN.out (bl, bd) (by omega) ((Sp.pick [_, _, _, _, _] [0, 2, 1, 3, 4] (by decide) (HS9.out.box (mbCells (bl, bd)) 37))); have HRUN := Lib.hid hrun; have HS10 := Lib.hid S10; have e9 := (HS9.out.box #[.string ⟨bl.toArray⟩, .string ⟨bd.toArray⟩] 37).pull1.cell; have d10 := S10.pull1.cell; have f10 := S10.pull1.free; obtain ⟨k2, k3⟩ := HKC.out _ HS9.out.ext; unfold mbCells at HRUN; clear hrun S10 hx; unfold r22Cells at d9 e9 d10; dsimp only at d9 e9 d10 HRUN)
                | (refine step_append_run (by rfl) (by rfl) (by rfl) (by rfl) HRUN.out ?_))
              all_goals
                go_wp2_with fail
                go_meet
                exact ⟨_, (HS10.out.pull1.set (o := 3) (.slice (some ⟨gg, 0, none⟩) (k + 1) cap2))⟩
            case rest =>
              obtain ⟨v1', S⟩ := hcut
              have HS9 : Hid (Sp w [] wc (r22B q ⟨host, (fl, fd), [], body, 0, 0⟩ v1' v2 v3 :: rowR 37 2 v1' (k + 1) ((rs ++ [(bl, bd)]).map Mb.vals).flatten :: rowR 3 1 v2 k ((List.replicate k (0 : Int)).map fun z => .int .i64 z) :: rowR 4 1 v3 k ((List.replicate k false).map fun z => .bool z) :: [])) := S
              clear S c8 k0 k1 HS8
              obtain ⟨g2, cap2, w10, hrun, S10⟩ := Sp.appendIntN 25 (List.length_replicate (n := k)) 0 (by omega) ((Sp.pick [_, _, _, _, _] [0, 3, 1, 2, 4] (by decide) (HS9.out.box #[.int .i64 0] 3)))
              have HS10 := Lib.hid S10
              have HRUN := Lib.hid hrun
              have c9 := HS9.out.cell
              have e9 := (HS9.out.box #[.int .i64 0] 3).pull1.cell
              have c10 := S10.pull1.cell
              have f10 := S10.pull1.free
              have l10 := S10.pull1.boxlt
              have S11 := S10.pull1.set (o := 4) (.slice (some ⟨g2, 0, none⟩) (k + 1) cap2)
              obtain ⟨g3, cap3, w12, hrun3, S12⟩ := Sp.appendBoolN 39 (List.length_replicate (n := k)) false (by omega) ((Sp.pick [_, _, _, _, _] [0, 4, 1, 2, 3] (by decide) (S11.box #[.bool false] 4)))
              have c11 := S11.cell
              have e11 := (S11.box #[.bool false] 4).pull1.cell
              have c12 := ((Sp.pick [_, _, _, _] [1] (by decide) (S12))).cell
              have f12 := ((Sp.pick [_, _, _, _] [1] (by decide) (S12))).free
              have HS13 := Lib.hid (((Sp.pick [_, _, _, _] [1, 3, 2, 0] (by decide) (S12))).set (o := 5) (.slice (some ⟨g3, 0, none⟩) (k + 1) cap3))
              have HRUN3 := Lib.hid hrun3
              rw [show (w10.setCell ⟨q, 4, none⟩ (.slice (some ⟨g2, 0, none⟩) (k + 1) cap2)).heap.size = w10.heap.size by simp] at HRUN3
              clear S10 S11 S12 hrun hrun3
              unfold r22Cells at c9 e9 c10 c11 e11 c12
              dsimp only at c9 e9 c10 c11 e11 c12
              go_wp2_with (at_builtin; first | refine wpList_append_run_g (by rfl) (by rfl) (by rfl) (by rfl) HRUN.out ?_ | refine wpList_append_run_g (by rfl) (by rfl) (by rfl) (by rfl) HRUN3.out ?_)
              go_roundw
              case rel => exact ⟨k + 1, _, _, _, by go_num, by omega, by rw [HST.out, List.all_append, HALL.out]; simp [HM.out], by
                rw [HST.out, rep_snoc, rep_snoc]
                exact HS13.out⟩
              case measure => simp [intOf]; omega
        · obtain rfl : k = to_.length := by omega
          have HAM : Hid (to_.all mbMay = true) := by
            have := HALL.out
            rw [List.take_of_length_le (Nat.le_refl _)] at this
            exact this
          rw [List.take_of_length_le (Nat.le_refl _), r22N_made] at HS
          have HV2 : Hid (clNew host (fl, fd) to_ body = if bodyOk body = false then (none, 2) else (some ⟨host, (fl, fd), to_.map rc0, body, 0, 0⟩, 0)) := by unfold Hid; rw [HD.out, if_neg (by rw [HAM.out]; decide)]
          have HBO : Hid (bodyOk body = ((crR body).2 == [] && (crR body).1.all fun s => decide (s.length ≤ 998))) := by unfold Hid bodyOk; rw [lnSplit_eq]
          have HLF := Lib.hid (lnSplit_fit (s := body) (by have := HB.out; omega))
          have HSPL := Lib.hid (fun w' L' (S' : Sp w [] w' L') => r08SplitS body S' (by have := HB.out; omega))
          rw [lnSplit_eq] at HLF
          have hre0 : (crR body).2.length ≤ 4096 := by
            have h := congrArg List.length (crR_back body.length body (Nat.le_refl _)).1
            have := HB.out
            rw [List.length_append] at h
            omega
          generalize crR body = cr at *
          obtain ⟨ls, re⟩ := cr
          dsimp only at *
          have hls : (ls.length : Int) ≤ 1000002 := by have := HLF.out.1; omega
          have hre : (re.length : Int) ≤ 4096 := by omega
          clear hre0
          clear HALL HD HV HAM HMF HT1 HTB HT
          go_wp2_with fail
          refine (HSPL.out _ _ HS.out).mono ?_
          rintro e w7 ⟨vl, rfl, S⟩
          have HS7 := Lib.hid S
          have HT7 := Lib.hid S.tx
          obtain ⟨la, lc, rfl⟩ := S.tx.form
          clear S HS
          go_wp2_with fail
          go_loopw [17] (fun i wr => ∃ m : Nat, i = .int .i64 m ∧ m ≤ ls.length ∧ (∀ s ∈ ls.take m, s.length ≤ 998) ∧ w7 = wr) (fun i _ => ls.length - (intOf i).toNat)
          case atStart => exact ⟨0, rfl, Nat.zero_le _, by simp, rfl⟩
          case round =>
            obtain ⟨m, rfl, hm, hal, rfl⟩ := hrel
            have HAL := Lib.hid hal
            clear hal
            by_cases hml : m < ls.length
            · have hml' : (m : Int) < ls.length := by omega
              obtain ⟨b, off, rfl, ck⟩ := HT7.out.at hml
              have hx := HLF.out.2 _ (List.getElem_mem hml)
              have HNO : Hid (998 < ls[m].length → bodyOk body = false) := fun h => by
                rw [HBO.out]
                have : (ls.all fun s => decide (s.length ≤ 998)) = false := by
                  rw [List.all_eq_false]
                  exact ⟨ls[m], List.getElem_mem hml, by simp; omega⟩
                rw [this]
                simp
              have HST : Hid (ls.take (m + 1) = ls.take m ++ [ls[m]]) := List.take_succ_eq_append_getElem hml
              generalize ls[m] = x at *
              have hx' : (x.length : Int) ≤ 1000000 := by omega
              by_cases hxl : 998 < x.length
              · have hxl' : (998 : Int) < x.length := by omega
                have HBF := Lib.hid (HNO.out hxl)
                clear hx hxl
                go_wp2
                go_ret2
                rw [HV2.out, if_pos HBF.out]
                exact ⟨rfl, HS7.out.drop.drop.drop.drop.drop⟩
              · have hxl' : (x.length : Int) ≤ 998 := by omega
                have HXL : Hid (x.length ≤ 998) := by unfold Hid; omega
                clear hx hxl
                go_wp2
                go_roundw
                case rel => exact ⟨m + 1, by go_num, by omega, by
                  rw [HST.out]
                  intro s hs
                  rcases List.mem_append.1 hs with h | h
                  · exact HAL.out s h
                  · rw [List.mem_singleton.1 h]; exact HXL.out, by trivial⟩
                case measure => simp [intOf]; omega
            · obtain rfl : m = ls.length := by omega
              have HA : Hid ((ls.all fun s => decide (s.length ≤ 998)) = true) := by
                rw [Hid, List.all_eq_true]
                intro s hs
                exact decide_eq_true (HAL.out s (by rw [List.take_of_length_le (Nat.le_refl _)]; exact hs))
              rw [HA.out, Bool.and_true] at HBO
              cases re with
              | nil =>
                have HBT : Hid (¬ bodyOk body = false) := by rw [Hid, HBO.out]; decide
                go_wp2
                go_ret2
                rw [HV2.out, if_neg HBT.out]
                exact ⟨_, _, _, _, rfl, HS7.out.drop⟩
              | cons c y =>
                have HBF : Hid (bodyOk body = false) := by rw [Hid, HBO.out]; rfl
                have hl0 : (0 : Int) < ((c :: y : Bs).length : Int) := by simp only [List.length_cons]; omega
                generalize c :: y = re2 at *
                go_wp2
                go_ret2
                rw [HV2.out, if_pos HBF.out]
                exact ⟨rfl, HS7.out.drop.drop.drop.drop.drop⟩
end
end Go.Proofs.YtldlbiodllgflaaGreatDoor

/-! R22e -/
namespace Go.Proofs.YtldlbiodllgflaaGreatDoor
open Go.RowKit

section
variable {w0 w : World} {F0 : List Nat} {L : List Res} {p b : Nat} {v tv sv kv : Value} {C : Cl}
theorem r22NewS (host : Bs) (fr : Mb) (tv : Value) (to_ : List Mb) (body : Bs) (hh : host.length ≤ 300) (h1 : fr.1.length ≤ 300) (h2 : fr.2.length ≤ 300) (hb : body.length ≤ 4096) (htl : to_.length ≤ 100) (ht : ∀ b ∈ to_, b.1.length ≤ 300 ∧ b.2.length ≤ 300)
    (T : BxAt w tv to_) (S : Sp w0 F0 w L) : Calls Tryz.prog 11 #[.string ⟨host.toArray⟩, mbAgg fr, tv, .string ⟨body.toArray⟩] w (OutNR w0 F0 L (clNew host fr to_ body)) := by
  refine (r22New_any host fr tv to_ body hh h1 h2 hb htl ht T).mono fun e w2 h => ?_
  unfold OutNR at h ⊢
  split at h
  · obtain ⟨p, tv, sv, kv, he, hs⟩ := h
    exact ⟨p, tv, sv, kv, he, S.add hs⟩
  · exact ⟨h.1, S.add h.2⟩
set_option maxRecDepth 100000 in
set_option maxHeartbeats 4000000 in
theorem r22PlayS (cv : Value) (codes : List Int) (hcd : ∀ c ∈ codes, -9223372036854775808 ≤ c ∧ c ≤ 9223372036854775807) (hcl : codes.length ≤ 9223372036854775807) (K : C.Ok) (J : C.Fit) (T : ∀ wx, Sp w0 [] wx L → IxAt wx cv codes) (S : Sp w0 [] w (r22R p C tv sv kv L)) :
    Calls Tryz.prog 19 #[.pointer (some ⟨p, 0, none⟩), cv] w fun e w2 => e = .returned (.string ⟨(C.play codes).2.toArray⟩) ∧ Sp w0 [] w2 (r22R p (C.play codes).1 tv sv kv L) := by
  have HCD := Lib.hid hcd
  have HT := Lib.hid T
  obtain ⟨a, cap, rfl⟩ := (T w S.drop.drop.drop.drop).form
  have hln : (codes.length : Int) ≤ 9223372036854775807 := by omega
  have HS0 := Lib.hid S
  have HK := Lib.hid K
  have HJ := Lib.hid J
  clear S T hcd hcl K J
  go_enter Tryz.func19, Tryz.ntmps19
  go_wp2_with fail
  go_loopw [5, 6] (fun o i wr => ∃ (k : Nat) (D : Cl) (out : Bs), o = .string ⟨out.toArray⟩ ∧ i = .int .i64 k ∧ k ≤ codes.length ∧ D.Ok ∧ D.Fit ∧ out.length ≤ D.rank * 5000000000 ∧ C.play codes = ((D.play (codes.drop k)).1, out ++ (D.play (codes.drop k)).2) ∧ Sp w0 [] wr (r22R p D tv sv kv L)) (fun _ i _ => codes.length - (intOf i).toNat)
  case atStart => exact ⟨0, C, [], rfl, rfl, Nat.zero_le _, HK.out, HJ.out, by simp, by simp, HS0.out⟩
  case round =>
    clear HS0
    obtain ⟨k, D, out, rfl, rfl, hk, hok, hft, hout, hpl, S⟩ := hrel
    have HS := Lib.hid S
    have HOK := Lib.hid hok
    have HFT := Lib.hid hft
    have HOUT := Lib.hid hout
    have HPL := Lib.hid hpl
    have HT1 := Lib.hid (HT.out wr S.drop.drop.drop.drop)
    have c0 := S.cell
    have f0 := S.free
    have HS8 := Lib.hid (S.set (o := 7) (.int .i64 8))
    have h8 := hok.ph8
    unfold r22Cells at c0
    clear S hok hout hpl hft
    by_cases hlt : k < codes.length
    · have hlt' : (k : Int) < codes.length := by omega
      obtain ⟨b, off, rfl, k0⟩ := HT1.out.at hlt
      have HCB := Lib.hid (HCD.out _ (List.getElem_mem hlt))
      have HDR : Hid (codes.drop k = codes[k] :: codes.drop (k + 1)) := List.drop_eq_getElem_cons hlt
      rw [HDR.out] at HPL
      generalize codes[k] = c at *
      by_cases hp8 : D.phase = 8
      · have HV : Hid (C.play codes = ({ D with phase := 8 }, out)) := by
          unfold Hid
          rw [HPL.out]
          show ((Cl.play D (c :: codes.drop (k + 1))).1, out ++ (Cl.play D (c :: codes.drop (k + 1))).2) = _
          unfold Cl.play
          rw [if_pos hp8, List.append_nil]
        have hx : (8 : Int) ≤ D.phase := by omega
        clear hp8 h8
        go_wp2
        go_ret
        rw [HV.out]
        exact ⟨rfl, HS8.out⟩
      · have hx : D.phase < 8 := by omega
        have HRL := Lib.hid (rank_lt HOK.out hp8 c)
        have HOK2 := Lib.hid (take_goes HOK.out c).1
        have HFT2 := Lib.hid (fit_take HFT.out HOK.out c)
        have HLEN := Lib.hid (take_len HOK.out c)
        have HRK := Lib.hid (rank_le HOK.out)
        have HPL2 : Hid (C.play codes = (((D.take c).1.play (codes.drop (k + 1))).1, (out ++ (D.take c).2) ++ ((D.take c).1.play (codes.drop (k + 1))).2)) := by
          unfold Hid
          rw [HPL.out]
          show ((Cl.play D (c :: codes.drop (k + 1))).1, out ++ (Cl.play D (c :: codes.drop (k + 1))).2) = _
          conv => lhs; unfold Cl.play
          rw [if_neg hp8, List.append_assoc]
        have HTK := Lib.hid (r22TakeS (C := D) c HCB.out.1 HCB.out.2 HOK.out HFT.out HS.out)
        clear HPL hp8 h8
        generalize hq : D.take c = t at *
        have HQ := Lib.hid hq
        clear hq
        obtain ⟨D2, s⟩ := t
        dsimp only at *
        have hadd := add_str out s (by have := HOUT.out; have := HRK.out; have := HLEN.out; have h2 : D.rank * 5000000000 ≤ 17 * 5000000000 := Nat.mul_le_mul_right _ HRK.out; unfold maxLen; omega)
        go_wp2_with fail
        refine HTK.out.mono ?_
        rintro e w3 ⟨rfl, S⟩
        have HS3 := Lib.hid S
        clear S k0 HTK
        dsimp only at *
        go_wp2
        go_roundw
        case rel => exact ⟨k + 1, D2, out ++ s, rfl, by go_num, by omega, HOK2.out, HFT2.out, by
          have h1 := HOUT.out
          have h2 := HLEN.out
          have h3 : (D.rank + 1) * 5000000000 ≤ D2.rank * 5000000000 := Nat.mul_le_mul_right _ HRL.out
          rw [List.length_append]
          omega, HPL2.out, HS3.out⟩
        case measure => simp [intOf]; omega
    · obtain rfl : k = codes.length := by omega
      have HV : Hid (C.play codes = ({ D with phase := 8 }, out)) := by
        unfold Hid
        rw [HPL.out, List.drop_of_length_le (Nat.le_refl _)]
        show ({ D with phase := 8 }, out ++ []) = _
        rw [List.append_nil]
      go_wp2
      go_ret
      rw [HV.out]
      exact ⟨rfl, HS8.out⟩
end
end Go.Proofs.YtldlbiodllgflaaGreatDoor
