/- client: the states told, mailboxes turned, bodies looked at, a client made. Conditions: the lengths fit; what Go's variables hold. -/
import Derived.Test.YtldlbiodllgflaaGreatDoorClU
import Derived.Test.YtldlbiodllgflaaGreatDoorArgs0
import Derived.Deep.RegionLaw
set_option linter.unusedSimpArgs false
set_option linter.unusedVariables false
set_option linter.unnecessarySimpa false
namespace Go.Proofs.YtldlbiodllgflaaGreatDoor
open Go.RowKit

/-! ### rows -/
theorem infoInt : (Tryz.prog.info? 3).map (fun i => (i.zero, i.size, i.bytes)) = some (some (.int .i64 0), 1, 8) := by kernel_rfl
theorem infoRec : (Tryz.prog.info? 71).map (fun i => (i.zero, i.size, i.bytes)) = some (some (.agg #[.string ⟨#[]⟩, .string ⟨#[]⟩, .int .i64 0, .bool false]), 4, 48) := by kernel_rfl
/-- A slice value that holds numbers, in blocks of its own. -/
abbrev intsR (v : Value) (l : List Int) : Res := rowR 3 1 v l.length (l.map fun z => .int .i64 z)
def Mb.vals (b : Mb) : List Value := [.string ⟨b.1.toArray⟩, .string ⟨b.2.toArray⟩]
/-- A slice value that holds mailboxes, only read. -/
def BxAt (w : World) (v : Value) (l : List Mb) : Prop := ∃ a cap, v = .slice a l.length cap ∧ RowsAt w a 2 (l.map Mb.vals)
theorem BxAt.ext {w w2 : World} {v : Value} {l : List Mb} (h : BxAt w v l) (hx : Ext [] w w2) : BxAt w2 v l := by
  obtain ⟨a, cap, h1, h2⟩ := h
  exact ⟨a, cap, h1, h2.ext hx⟩
theorem BxAt.form {w : World} {v : Value} {l : List Mb} (h : BxAt w v l) : ∃ a cap, v = .slice a l.length cap := by
  obtain ⟨a, cap, h1, _⟩ := h
  exact ⟨a, cap, h1⟩
theorem BxAt.at {w : World} {a : Option Addr} {n cap : Nat} {l : List Mb} (h : BxAt w (.slice a n cap) l) {i : Nat} (hi : i < l.length) : ∃ b off, a = some ⟨b, off, none⟩ ∧ w.cell? ⟨b, off + i * 2, none⟩ = some (.string ⟨l[i].1.toArray⟩) ∧ w.cell? ⟨b, off + i * 2 + 1, none⟩ = some (.string ⟨l[i].2.toArray⟩) := by
  obtain ⟨a2, cap2, h1, h2⟩ := h
  cases h1
  obtain ⟨b, off, rfl⟩ := h2.addr (i := i) (by simpa using hi)
  have hr : (l.map Mb.vals)[i]? = some (Mb.vals l[i]) := by rw [List.getElem?_map, List.getElem?_eq_getElem hi]; rfl
  exact ⟨b, off, rfl, h2.at i _ hr 0 _ rfl, h2.at i _ hr 1 _ rfl⟩
section
variable {w0 w : World} {L : List Res} {F0 : List Nat} {p b : Nat} {v : Value} {C : Cl}
theorem Sp.appendInt (ty : TypeId) {l : List Int} (x : Int) (hn : l.length < 10000000000) (S : Sp w0 F0 w (boxR b #[.int .i64 x] 3 :: intsR v l :: L)) :
    ∃ g cap w2, (Builtin.append_ #[25, 25] ty #[v, .slice (some ⟨b, 0, none⟩) 1 1]).run Tryz.prog w = .ok (.slice (some ⟨g, 0, none⟩) (l.length + 1) cap) w2 ∧ Sp w0 F0 w2 (intsR (.slice (some ⟨g, 0, none⟩) (l.length + 1) cap) (l ++ [x]) :: L) := by
  obtain ⟨g, cap, w2, h1, S2⟩ := Sp.appendOne 25 ty #[.int .i64 x] _ 8 infoInt rfl Tryz.underlying25 (by decide) (by decide) rfl (by simp [Value.oneCell']) hn S
  refine ⟨g, cap, w2, h1, ?_⟩
  have e1 : (l ++ [x]).map (fun z => (.int .i64 z : Value)) = l.map (fun z => (.int .i64 z : Value)) ++ [.int .i64 x] := by simp
  have e2 : (l ++ [x]).length = l.length + 1 := by simp
  unfold intsR
  rw [e1, e2]
  exact S2.drop
theorem Sp.appendRec (ty : TypeId) {l : List Rc} (r : Rc) (hn : l.length < 10000000000) (S : Sp w0 F0 w (boxR b r.vals.toArray 71 :: rcsR v l :: L)) :
    ∃ g cap w2, (Builtin.append_ #[67, 67] ty #[v, .slice (some ⟨b, 0, none⟩) 1 1]).run Tryz.prog w = .ok (.slice (some ⟨g, 0, none⟩) (l.length + 1) cap) w2 ∧ Sp w0 F0 w2 (rcsR (.slice (some ⟨g, 0, none⟩) (l.length + 1) cap) (l ++ [r]) :: L) := by
  obtain ⟨g, cap, w2, h1, S2⟩ := Sp.appendOne 67 ty r.vals.toArray _ 48 infoRec rfl Tryz.underlying67 (by decide) (by decide) rfl (by simp [Rc.vals, Value.oneCell']) hn S
  refine ⟨g, cap, w2, h1, ?_⟩
  have e1 : ((l ++ [r]).map Rc.vals).flatten = (l.map Rc.vals).flatten ++ r.vals := by simp
  have e2 : (l ++ [r]).length = l.length + 1 := by simp
  unfold rcsR
  rw [e1, e2]
  exact S2.drop
theorem take_snoc {α β : Type} (f : α → β) {l : List α} {k : Nat} (h : k < l.length) : (l.take (k + 1)).map f = (l.take k).map f ++ [f l[k]] := by
  rw [List.take_succ_eq_append_getElem h, List.map_append]
  rfl
set_option maxRecDepth 100000 in
set_option maxHeartbeats 1000000 in
theorem clStatesS (hn : C.tos.length ≤ 1000) (S : Sp w0 F0 w (clR p C v L)) : Calls Tryz.prog 16 #[.pointer (some ⟨p, 0, none⟩)] w fun e w2 => ∃ v2, e = .returned v2 ∧ Sp w0 F0 w2 (intsR v2 (C.tos.map Rc.state) :: clR p C v L) := by
  have c0 := S.cell
  obtain ⟨a, cap, rfl⟩ := S.pull1.rcSlice
  have HS := Lib.hid (Sp.rowNil S 3 1)
  have hn' : (C.tos.length : Int) ≤ 1000 := by omega
  unfold clCells at c0
  clear S hn
  go_enter Tryz.func16, Tryz.ntmps16
  go_wp2_with fail
  clear c0
  go_loopw [3, 11] (fun o i wr => ∃ k : Nat, i = .int .i64 k ∧ k ≤ C.tos.length ∧ Sp w0 F0 wr (intsR o ((C.tos.take k).map Rc.state) :: clR p C (.slice a C.tos.length cap) L)) (fun _ i _ => C.tos.length - (intOf i).toNat)
  case atStart => exact ⟨0, rfl, Nat.zero_le _, HS.out⟩
  case round =>
    clear HS
    obtain ⟨k, rfl, hk, S⟩ := hrel
    have HS := Lib.hid S
    clear S
    by_cases hlt : k < C.tos.length
    · have hlt' : (k : Int) < C.tos.length := by omega
      obtain ⟨ga, rfl⟩ : ∃ ga, a = some ⟨ga, 0, none⟩ := by
        rcases ((Sp.pick [_, _, _] [2] (by decide) (HS.out))).rowForm with ⟨h1, h2⟩ | ⟨g2, cap2, h1⟩
        · omega
        · cases h1; exact ⟨g2, rfl⟩
      have hat : C.tos[k]? = some C.tos[k] := List.getElem?_eq_getElem hlt
      obtain ⟨k0, k1, k2, k3⟩ := ((Sp.pick [_, _, _] [2, 0, 1] (by decide) (HS.out))).rcCells hat
      have HT := Lib.hid (take_snoc Rc.state hlt)
      have HLN : Hid (((C.tos.take k).map Rc.state).length = k) := by unfold Hid; rw [List.length_map, List.length_take]; omega
      clear hat
      generalize (C.tos.take k).map Rc.state = sl at *
      generalize C.tos[k] = r at *
      obtain ⟨⟨rl, rd⟩, rst, rac⟩ := r
      dsimp only at *
      obtain ⟨gg, cc, w4, hrun, S4⟩ := Sp.appendInt 25 rst (by have := HLN.out; omega) ((Sp.pick [_, _, _] [0, 2, 1] (by decide) ((HS.out.box #[.string ⟨rl.toArray⟩, .string ⟨rd.toArray⟩, .int .i64 rst, .bool rac] 71).box #[.int .i64 rst] 3)))
      have hsz : (wr.alloc (.cells #[.string ⟨rl.toArray⟩, .string ⟨rd.toArray⟩, .int .i64 rst, .bool rac] 71)).heap.size = wr.heap.size + 1 := by simp
      rw [HLN.out] at hrun S4
      rw [hsz] at hrun
      clear hsz
      have HRUN := Lib.hid hrun
      have HS4 := Lib.hid S4.pull1.drop
      clear hrun S4
      go_wp2_with (at_builtin; refine wpList_append_run_g (by rfl) (by rfl) (by rfl) (by rfl) HRUN.out ?_)
      go_roundw
      case rel => exact ⟨k + 1, by go_num, by omega, by rw [HT.out]; exact HS4.out⟩
      case measure => simp [intOf]; omega
    · obtain rfl : k = C.tos.length := by omega
      rw [List.take_of_length_le (Nat.le_refl _)] at HS
      go_wp2
      go_ret
      exact ⟨_, rfl, HS.out⟩
set_option maxRecDepth 100000 in
set_option maxHeartbeats 1000000 in
theorem mailbox_any (m : Mb) (w : World) : Calls Tryz.prog 29 #[mbAgg m] w fun e w2 => e = .returned (mbAgg m) ∧ Ext [] w w2 := by
  obtain ⟨l, d⟩ := m
  have HS0 := Lib.hid (((Sp.nil w []).box (mbCells (l, d)) 23).box #[.string ⟨#[]⟩, .string ⟨#[]⟩] 55)
  unfold mbCells at HS0
  unfold mbAgg
  dsimp only at *
  have hsz : (w.alloc (.cells #[.string ⟨l.toArray⟩, .string ⟨d.toArray⟩] 23)).heap.size = w.heap.size + 1 := by simp
  rw [hsz] at HS0
  go_enter Tryz.func29, Tryz.ntmps29
  go_upto_region 1 with (fail)
  generalize (w.alloc (.cells #[.string ⟨l.toArray⟩, .string ⟨d.toArray⟩] 23)).alloc (.cells #[.string ⟨#[]⟩, .string ⟨#[]⟩] 55) = w1 at *
  generalize w.heap.size + 1 = q1 at *
  generalize w.heap.size = q0 at *
  have c0 := HS0.out.pull1.cell
  have d0 := HS0.out.cell
  have f0 := HS0.out.free
  have l0 := HS0.out.boxlt
  have HS6 := Lib.hid ((HS0.out.set (o := 0) (.string ⟨l.toArray⟩)).set (o := 1) (.string ⟨d.toArray⟩))
  go_wp2
  exact bodyPost_ret (v := .agg #[.string ⟨l.toArray⟩, .string ⟨d.toArray⟩]) (by simp [results, Tryz.results29, go_sem, d0]) rfl ⟨rfl, HS6.out.ext⟩
set_option maxRecDepth 100000 in
theorem tooLong_any (x : Bs) (w : World) (hx : x.length ≤ 1000000) : Calls Tryz.prog 61 #[.string ⟨x.toArray⟩] w fun e w2 => e = .returned (.bool (decide (998 < x.length))) ∧ w = w2 := by
  have hx' : (x.length : Int) ≤ 1000000 := by omega
  by_cases h : 998 < x.length
  · have h' : (998 : Int) < x.length := by omega
    rw [decide_eq_true h]
    clear h
    go_enter Tryz.func61, Tryz.ntmps61
    go_wp2
    go_ret
    exact ⟨rfl, rfl⟩
  · have h' : (x.length : Int) ≤ 998 := by omega
    rw [decide_eq_false h]
    clear h
    go_enter Tryz.func61, Tryz.ntmps61
    go_wp2
    go_ret
    exact ⟨ret_bool (decide_eq_false (by omega)), rfl⟩
abbrev ShortT := {s : Bs // s.length ≤ 1000000}
instance : Inhabited ShortT := ⟨⟨[], by decide⟩⟩
theorem shorts : ∀ (l : List Bs), (∀ s ∈ l, s.length ≤ 1000000) → ∃ zs : List ShortT, zs.map (·.1) = l
  | [], _ => ⟨[], rfl⟩
  | s :: l, h => by
    obtain ⟨zs, hz⟩ := shorts l fun t ht => h t (by simp [ht])
    exact ⟨⟨s, h s (by simp)⟩ :: zs, by simp [hz]⟩
theorem anyLongS (l : List Bs) (hs : ∀ s ∈ l, s.length ≤ 1000000) (T : TxAt w v l) (S : Sp w0 [] w L) : Calls Tryz.prog 60 #[v, .func (.func 61) #[] #[]] w fun e w2 => e = .returned (.bool (l.any fun s => decide (998 < s.length))) ∧ Sp w0 [] w2 L := by
  obtain ⟨zs, rfl⟩ := shorts l hs
  obtain ⟨a, cap, rfl, hm, h⟩ := T
  have eg : ∀ args w, (callFunc 61 args).run Tryz.prog w = .ok (.enter 61 args) w := enters_of Tryz.func61 (by kernel_rfl) rfl
  rcases h with h | ⟨b, off, rfl, h⟩
  · have : zs = [] := List.map_eq_nil_iff.1 h
    subst this
    refine (Tryz.slices_ContainsFunc_empty (α := ShortT) a cap _ w).mono ?_
    rintro e w2 ⟨rfl, rfl⟩
    exact ⟨rfl, S⟩
  · have hp : PredAt Tryz.prog 61 #[] (fun x : ShortT => .string ⟨x.1.toArray⟩) (fun x => decide (998 < x.1.length)) w := fun W x _ => (tooLong_any x.1 W x.2).mono fun e w2 ⟨he, hw⟩ => ⟨he, 0, by subst hw; rfl⟩
    refine (Tryz.slices_ContainsFunc (fun x : ShortT => .string ⟨x.1.toArray⟩) (fun x => decide (998 < x.1.length)) _ #[] eg b off _ cap zs w hp (by simp) (by unfold maxLen at hm; omega) (fun j hj => ?_)).mono ?_
    · have := h j (by simpa using hj)
      rw [this]
      simp [getElem!_pos, hj]
    · rintro e w2 ⟨rfl, q, rfl⟩
      refine ⟨?_, S.drewN q⟩
      rw [List.any_map, List.length_map, List.take_length]
      rfl
theorem lnSplit_fit {s : Bs} (h : s.length ≤ 1000000) : (lnSplit s).1.length ≤ 1000002 ∧ ∀ x ∈ (lnSplit s).1, x.length ≤ 1000000 := by
  have hsf := split_facts s crlf
  unfold lnSplit
  refine ⟨by rw [List.length_dropLast]; omega, fun x hx => ?_⟩
  have := hsf.2.2 x ((List.dropLast_sublist _).subset hx)
  omega
set_option maxRecDepth 100000 in
set_option maxHeartbeats 1000000 in
theorem rightS (s : Bs) (hs : s.length ≤ 1000000) (S : Sp w0 [] w L) (E : Env w0) : Calls Tryz.prog 30 #[.string ⟨s.toArray⟩] w fun e w2 => e = .returned (.bool (bodyOk s)) ∧ Sp w0 [] w2 L := by
  have HSP := Lib.hid (lnSplitS s E hs S)
  have HF := Lib.hid (lnSplit_fit hs)
  have HV : Hid (bodyOk s = ((lnSplit s).2 == [] && (lnSplit s).1.all fun s => decide (s.length ≤ 998))) := rfl
  generalize lnSplit s = q at *
  obtain ⟨l, r⟩ := q
  dsimp only at *
  clear S E hs
  go_enter Tryz.func30, Tryz.ntmps30
  go_wp2_with fail
  refine HSP.out.mono ?_
  rintro e w1 ⟨v2, rfl, S, T⟩
  have HS1 := Lib.hid S
  have HT1 := Lib.hid T
  obtain ⟨a, cap, rfl⟩ := T.form
  clear S T HSP
  by_cases hr : r = []
  · subst hr
    have HAN := Lib.hid (anyLongS l HF.out.2 HT1.out HS1.out)
    have HB : Hid ((!l.any fun s => decide (998 < s.length)) = bodyOk s) := by
      unfold Hid
      rw [HV.out, List.not_any_eq_all_not]
      simp only [beq_self_eq_true, Bool.true_and]
      congr 1
      funext x
      rw [Bool.eq_iff_iff]
      simp
    generalize (l.any fun s => decide (998 < s.length)) = an at *
    go_wp2_with fail
    refine HAN.out.mono ?_
    rintro e w2 ⟨rfl, S⟩
    have HS2 := Lib.hid S
    clear S
    go_wp2
    go_ret
    exact ⟨ret_bool HB.out, HS2.out⟩
  · have HB : Hid (bodyOk s = false) := by
      unfold Hid
      rw [HV.out, show (r == []) = false from by simpa using hr]
      rfl
    have hr1 : (r == []) = false := by simpa using hr
    go_wp2
    go_ret
    exact ⟨ret_bool HB.out.symm, HS1.out⟩
end
end Go.Proofs.YtldlbiodllgflaaGreatDoor
