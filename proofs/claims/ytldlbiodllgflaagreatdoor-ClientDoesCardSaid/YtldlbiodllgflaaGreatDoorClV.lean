/- client: become, fail, name. Conditions: the lengths fit; what Go's variables hold. -/
import Derived.Test.YtldlbiodllgflaaGreatDoorClW
import Derived.Test.YtldlbiodllgflaaGreatDoorChainG
import Derived.Test.YtldlbiodllgflaaGreatDoorGen
import Derived.Shelf.SlicesQ.IndexFunc
set_option linter.unusedSimpArgs false
set_option linter.unusedVariables false
set_option linter.unnecessarySimpa false
namespace Go.Proofs.YtldlbiodllgflaaGreatDoor
open Go.RowKit

def becF (st : Int) (pr : Rc → Bool) (r : Rc) : Rc := if pr r then { r with state := st } else r
def becL (st : Int) (pr : Rc → Bool) (l : List Rc) (k : Nat) : List Rc := (l.take k).map (becF st pr) ++ l.drop k
theorem becL_len (st : Int) (pr : Rc → Bool) (l : List Rc) (k : Nat) : (becL st pr l k).length = l.length := by simp [becL]; omega
theorem becL_at (st : Int) (pr : Rc → Bool) (l : List Rc) (k : Nat) (h : k < l.length) : (becL st pr l k)[k]? = some l[k] := by
  unfold becL
  rw [List.getElem?_append_right (by simp; omega)]
  simp [Nat.min_eq_left (Nat.le_of_lt h), h]
theorem becL_next (st : Int) (pr : Rc → Bool) (l : List Rc) (k : Nat) (h : k < l.length) : becL st pr l (k + 1) = (becL st pr l k).set k (becF st pr l[k]) := by
  unfold becL
  have e2 : ((l.take k).map (becF st pr)).length = k := by simp; omega
  rw [List.take_succ_eq_append_getElem h, List.map_append, List.set_append_right _ _ (by omega), e2, Nat.sub_self, List.append_assoc]
  congr 1
  rw [List.drop_eq_getElem_cons h]
  rfl
theorem becL_all (st : Int) (pr : Rc → Bool) (l : List Rc) : becL st pr l l.length = l.map (becF st pr) := by simp [becL]
theorem becL_same (st : Int) (pr : Rc → Bool) (l : List Rc) (k : Nat) (h : k < l.length) (hp : pr l[k] = false) : becL st pr l (k + 1) = becL st pr l k := by
  rw [becL_next st pr l k h]
  unfold becF
  rw [if_neg (by rw [hp]; decide)]
  apply List.ext_getElem?
  intro i
  rw [List.getElem?_set]
  by_cases e : k = i
  · subst e
    rw [if_pos rfl, becL_at st pr l k h, if_pos (by rw [becL_len]; exact h)]
  · rw [if_neg e]
/-- A client in memory: its fields, its recipients. -/
abbrev clR (p : Nat) (C : Cl) (v : Value) (L : List Res) : List Res := clB p C v :: rcsR v C.tos :: L
section
variable {w0 w : World} {L : List Res} {p : Nat} {v : Value} {C : Cl}
theorem Sp.rcCells {g n cap : Nat} {F0 : List Nat} {l : List Rc} (S : Sp w0 F0 w (rowR 71 4 (.slice (some ⟨g, 0, none⟩) n cap) n (l.map Rc.vals).flatten :: L)) {k : Nat} {r : Rc} (h : l[k]? = some r) :
    w.cell? ⟨g, k * 4, none⟩ = some (.string ⟨r.box.1.toArray⟩) ∧ w.cell? ⟨g, k * 4 + 1, none⟩ = some (.string ⟨r.box.2.toArray⟩) ∧ w.cell? ⟨g, k * 4 + 2, none⟩ = some (.int .i64 r.state) ∧ w.cell? ⟨g, k * 4 + 3, none⟩ = some (.bool r.acc) := by
  have hr : (l.map Rc.vals)[k]? = some r.vals := by rw [List.getElem?_map, h]; rfl
  have f := fun j u hu => S.rowCell (rcVals_len l) hr (j := j) (u := u) hu
  exact ⟨f 0 _ rfl, f 1 _ rfl, f 2 _ rfl, f 3 _ rfl⟩
theorem Sp.rcForm {l : List Rc} {F0 : List Nat} (S : Sp w0 F0 w (rcsR v l :: L)) : (v = .slice none 0 0 ∧ l = []) ∨ ∃ g cap, v = .slice (some ⟨g, 0, none⟩) l.length cap := by
  rcases S.rowForm with ⟨h1, h2⟩ | h
  · exact .inl ⟨h1, List.eq_nil_of_length_eq_zero h2⟩
  · exact .inr h
theorem Sp.rcSlice {l : List Rc} {F0 : List Nat} (S : Sp w0 F0 w (rcsR v l :: L)) : ∃ a cap, v = .slice a l.length cap := by
  rcases S.rcForm with ⟨rfl, rfl⟩ | ⟨g, cap, rfl⟩
  · exact ⟨_, _, rfl⟩
  · exact ⟨_, _, rfl⟩
set_option maxRecDepth 100000 in
set_option maxHeartbeats 2000000 in
theorem clBecomeS (st : Int) (pr : Rc → Bool) (g : Nat) (eg : ∀ args w, (callFunc g args).run Tryz.prog w = .ok (.enter g args) w) (hg : ∀ (r : Rc) (w : World), Calls Tryz.prog g #[rcAgg r] w fun e w2 => e = .returned (.bool (pr r)) ∧ Ext [] w w2)
    (hn : C.tos.length ≤ 1000) (S : Sp w0 [] w (clR p C v L)) : Calls Tryz.prog 39 #[.pointer (some ⟨p, 0, none⟩), .int .i64 st, .func (.func g) #[] #[]] w fun e w2 => e = .returned (.tuple #[]) ∧ Sp w0 [] w2 (clR p (C.become st pr) v L) := by
  have HG := Lib.hid hg
  have HV : Hid (C.become st pr = { C with tos := C.tos.map (becF st pr) }) := rfl
  rw [HV.out]
  obtain ⟨host, ⟨fl, fd⟩, tos, body, phase, at_⟩ := C
  dsimp only at *
  obtain ⟨a, cap, rfl⟩ := S.pull1.rcSlice
  have c0 := S.cell
  have HS0 := Lib.hid S
  have hnl : (tos.length : Int) ≤ 1000 := by omega
  unfold clCells at c0
  dsimp only at *
  clear hg S hn
  go_enter Tryz.func39, Tryz.ntmps39
  go_wp2_with fail
  clear c0
  go_loopw [13] (fun i wr => ∃ k : Nat, i = .int .i64 k ∧ k ≤ tos.length ∧ Sp w0 [] wr (clB p ⟨host, (fl, fd), tos, body, phase, at_⟩ (.slice a tos.length cap) :: rowR 71 4 (.slice a tos.length cap) tos.length ((becL st pr tos k).map Rc.vals).flatten :: L)) (fun i _ => tos.length - (intOf i).toNat)
  case atStart => exact ⟨0, rfl, Nat.zero_le _, by rw [show becL st pr tos 0 = tos by simp [becL]]; exact HS0.out⟩
  case round =>
    clear HS0
    obtain ⟨k, rfl, hk, S⟩ := hrel
    have HS := Lib.hid S
    clear S
    by_cases hlt : k < tos.length
    · have hlt' : (k : Int) < tos.length := by omega
      have hat := becL_at st pr tos k hlt
      have HN := Lib.hid (becL_next st pr tos k hlt)
      have HSM := Lib.hid (becL_same st pr tos k hlt)
      generalize tos[k] = r at *
      obtain ⟨ga, rfl⟩ : ∃ ga, a = some ⟨ga, 0, none⟩ := by
        rcases HS.out.pull1.rowForm with ⟨h1, h2⟩ | ⟨g2, cap2, h1⟩
        · omega
        · cases h1; exact ⟨g2, rfl⟩
      obtain ⟨k0, k1, k2, k3⟩ := HS.out.pull1.rcCells hat
      have HAT := Lib.hid hat
      clear hat
      have HSB := Lib.hid (HS.out.box #[.string ⟨r.box.1.toArray⟩, .string ⟨r.box.2.toArray⟩, .int .i64 r.state, .bool r.acc] 71)
      have HCG := Lib.hid (fun w' => HG.out r w')
      have HB1 : Hid (pr r = true → becF st pr r = { r with state := st }) := fun h => by unfold becF; rw [if_pos h]
      have HROW := Lib.hid (fun (w' : World) (S' : Sp w0 [] w' (rowR 71 4 (.slice (some ⟨ga, 0, none⟩) tos.length cap) tos.length ((becL st pr tos k).map Rc.vals).flatten :: clB p ⟨host, (fl, fd), tos, body, phase, at_⟩ (.slice (some ⟨ga, 0, none⟩) tos.length cap) :: L)) => S'.rowSet (rcVals_len _) (i := k) (r := r.vals) (by rw [List.getElem?_map, HAT.out]; rfl) (j := 2) (by decide) (.int .i64 st))
      have HUPD : Hid (((becL st pr tos k).map Rc.vals).set k (r.vals.set 2 (.int .i64 st)) = ((becL st pr tos k).set k { r with state := st }).map Rc.vals) := by
        unfold Hid
        rw [List.map_set]
        rfl
      rw [HUPD.out] at HROW
      generalize pr r = b at *
      have HRA : Hid (rcAgg r = .agg #[.string ⟨r.box.1.toArray⟩, .string ⟨r.box.2.toArray⟩, .int .i64 r.state, .bool r.acc]) := rfl
      rw [HRA.out] at HCG
      generalize becF st pr r = r2 at *
      obtain ⟨⟨rl, rd⟩, rst, rac⟩ := r
      dsimp only at *
      clear HRA HUPD
      cases b with
      | true =>
        have HB2 := Lib.hid (HB1.out rfl)
        rw [HB2.out] at HN
        clear HB1 HSM HB2
        go_wp2_with fail
        go_at_fn g
        refine (HCG.out _).mono ?_
        generalize wr.heap.size = b2 at *
        rintro e w2 ⟨rfl, hx⟩
        have S2 := HSB.out.ext0 hx
        have c2 := S2.pull1.cell
        have f2 := S2.pull2.rowFree (k * 4 + 2)
        have kk := (S2.pull2.rcCells HAT.out).2.2.1
        have HS3 := Lib.hid (HROW.out _ ((Sp.pick [_, _, _] [2, 1] (by decide) (S2))))
        unfold clCells at c2
        dsimp only at c2 kk
        clear hx S2 HSB k0 k1 k2 k3
        go_wp2
        go_roundw
        case rel => exact ⟨k + 1, by go_num, by omega, by rw [HN.out]; exact HS3.out.pull1⟩
        case measure => simp [intOf]; omega
      | false =>
        have HS2 := Lib.hid (HSM.out rfl)
        clear HB1 HSM HN
        go_wp2_with fail
        go_at_fn g
        refine (HCG.out _).mono ?_
        generalize wr.heap.size = b2 at *
        rintro e w2 ⟨rfl, hx⟩
        have HS3 := Lib.hid (HSB.out.ext0 hx).drop
        clear hx HSB k0 k1 k2 k3
        go_wp2
        go_roundw
        case rel => exact ⟨k + 1, by go_num, by omega, by rw [HS2.out]; exact HS3.out⟩
        case measure => simp [intOf]; omega
    · obtain rfl : k = tos.length := by omega
      have HA := Lib.hid (becL_all st pr tos)
      rw [HA.out] at HS
      go_wp2
      go_end0
      refine ⟨rfl, ?_⟩
      have := HS.out
      unfold clR rcsR
      dsimp only
      rw [List.length_map]
      exact this
/-- What a method hands back: a text, and the client with its recipients. -/
def OutR2 (w0 : World) (L : List Res) (p : Nat) (v : Value) (q : Cl × Bs) (e : Ending) (w2 : World) : Prop := e = .returned (.string ⟨q.2.toArray⟩) ∧ Sp w0 [] w2 (clR p q.1 v L)
set_option maxRecDepth 100000 in
theorem clFailS (cls : Int) (pr : Rc → Bool) (g : Nat) (eg : ∀ args w, (callFunc g args).run Tryz.prog w = .ok (.enter g args) w) (hg : ∀ (r : Rc) (w : World), Calls Tryz.prog g #[rcAgg r] w fun e w2 => e = .returned (.bool (pr r)) ∧ Ext [] w w2)
    (hn : C.tos.length ≤ 1000) (S : Sp w0 [] w (clR p C v L)) (E : Env w0) : Calls Tryz.prog 35 #[.pointer (some ⟨p, 0, none⟩), .int .i64 cls, .func (.func g) #[] #[]] w (OutR2 w0 L p v (C.fail cls pr)) := by
  by_cases h5 : cls = 5
  · subst h5
    have HB := Lib.hid (clBecomeS 2 pr g eg hg hn S)
    have HE := Lib.hid E
    have HV : Hid (C.fail 5 pr = (C.become 2 pr).leave) := rfl
    have HL := Lib.hid (fun (w' : World) (S' : Sp w0 [] w' (clR p (C.become 2 pr) v L)) => clLeaveS (L := rcsR v (C.become 2 pr).tos :: L) S' E)
    rw [HV.out]
    clear S E hg eg
    go_enter Tryz.func35, Tryz.ntmps35
    go_wp2_with fail
    refine HB.out.mono ?_
    rintro e w2 ⟨rfl, S⟩
    have HS := Lib.hid S
    clear S
    go_wp2_with fail
    refine (HL.out _ HS.out).mono ?_
    rintro e w3 ⟨rfl, S⟩
    have HS3 := Lib.hid S
    clear S
    go_wp2
    go_ret
    exact ⟨rfl, HS3.out⟩
  · have h5' : (cls == 5) = false := by simpa using h5
    have HV : Hid (C.fail cls pr = C.leave) := by unfold Hid Cl.fail; rw [if_neg h5]
    have HL := Lib.hid (clLeaveS (L := rcsR v C.tos :: L) S E)
    rw [HV.out]
    clear S E hg eg h5
    go_enter Tryz.func35, Tryz.ntmps35
    go_wp2_with fail
    refine HL.out.mono ?_
    rintro e w3 ⟨rfl, S⟩
    have HS3 := Lib.hid S
    clear S
    go_wp2
    go_ret
    exact ⟨rfl, HS3.out⟩
instance : Inhabited Rc := ⟨⟨([], []), 0, false⟩⟩
theorem anyTakenS (l : List Rc) (h0 : l ≠ []) (hn : l.length ≤ 1000) {F0 : List Nat} (S : Sp w0 F0 w (rcsR v l :: L)) : Calls Tryz.prog 86 #[v, .func (.func 36) #[] #[]] w fun e w2 => e = .returned (.bool (l.any Rc.taken)) ∧ Sp w0 F0 w2 (rcsR v l :: L) := by
  have eg : ∀ args w, (callFunc 36 args).run Tryz.prog w = .ok (.enter 36 args) w := enters_of Tryz.func36 (by kernel_rfl) rfl
  rcases S.rcForm with ⟨rfl, rfl⟩ | ⟨g, cap, rfl⟩
  · exact absurd rfl h0
  · have hp : PredBelow Tryz.prog 36 #[] (fun x : Rc => .agg x.vals.toArray) Rc.taken w := fun W x hb => (rcTaken_any x W).mono fun _ _ ⟨he, hx⟩ => ⟨he, hb.trans ((hx.below (Nat.le_refl _) (by simp)).mono hb.size)⟩
    refine (AnyQ.slices_ContainsFunc Tryz.conR 4 (fun w => by kernel_rfl) (fun w => by kernel_rfl) Rc.vals (fun _ => rfl) Rc.taken _ #[] eg g 0 l.length cap l w hp (Nat.le_refl _) (by omega) S.rowLt (fun j hj i u hu => ?_)).mono ?_
    · have hr : (l.map Rc.vals)[j]? = some (l[j]!).vals := by rw [List.getElem?_map, List.getElem?_eq_getElem hj, getElem!_pos l j hj]; rfl
      rw [Nat.zero_add]
      exact S.rowCell (rcVals_len l) hr hu
    · rintro e w2 ⟨rfl, hb⟩
      refine ⟨?_, S.ext0 (Ext.of_below hb)⟩
      rw [List.take_length]
set_option maxRecDepth 100000 in
set_option maxHeartbeats 2000000 in
theorem clNameS (h0 : C.tos ≠ []) (hb : ∀ r ∈ C.tos, r.box.1.length ≤ 2048 ∧ r.box.2.length ≤ 2048) (hn : C.tos.length ≤ 1000) (ha : C.at_ ≤ 100000) (S : Sp w0 [] w (clR p C v L)) (E : Env w0) : Calls Tryz.prog 66 #[.pointer (some ⟨p, 0, none⟩)] w (OutR2 w0 L p v C.name) := by
  have HS := Lib.hid S
  have HE := Lib.hid E
  have c0 := S.cell
  obtain ⟨a, cap, rfl⟩ := S.pull1.rcSlice
  unfold clCells at c0
  have hn' : (C.tos.length : Int) ≤ 1000 := by omega
  by_cases hlt : C.at_ < C.tos.length
  · have hlt' : (C.at_ : Int) < C.tos.length := by omega
    have hat : C.tos[C.at_]? = some C.tos[C.at_] := List.getElem?_eq_getElem hlt
    obtain ⟨h1, h2⟩ := hb _ (List.getElem_mem hlt)
    have HV : Hid (C.name = C.send ⟨4, [], C.tos[C.at_].box, 0, false⟩ 4) := by unfold Hid Cl.name; rw [hat]
    have HSD := Lib.hid (fun (w' : World) (S' : Sp w0 [] w' (clR p C (.slice a C.tos.length cap) L)) => clSendS (L := rcsR (.slice a C.tos.length cap) C.tos :: L) ⟨4, [], C.tos[C.at_].box, 0, false⟩ 4 S' E ⟨by simp, h1, h2, (show (-9223372036854775808 : Int) ≤ 0 by decide), (show (0 : Int) ≤ 9223372036854775807 by decide)⟩)
    obtain ⟨ga, rfl⟩ : ∃ ga, a = some ⟨ga, 0, none⟩ := by
      rcases HS.out.pull1.rowForm with ⟨h1, h2⟩ | ⟨g2, cap2, h1⟩
      · omega
      · cases h1; exact ⟨g2, rfl⟩
    have k := S.pull1.rcCells hat
    obtain ⟨k0, k1, _, _⟩ := k
    rw [HV.out]
    generalize C.tos[C.at_] = r at *
    obtain ⟨⟨rl, rd⟩, rst, rac⟩ := r
    unfold cmAgg at HSD
    dsimp only at *
    have HQ : Hid ((C.send ⟨4, [], (rl, rd), 0, false⟩ 4).1.tos = C.tos ∧ (C.send ⟨4, [], (rl, rd), 0, false⟩ 4).1.at_ = C.at_) := ⟨rfl, rfl⟩
    generalize C.send ⟨4, [], (rl, rd), 0, false⟩ 4 = q at *
    have HAT := Lib.hid hat
    clear hb S E h1 h2 hat HV hlt
    go_enter Tryz.func66, Tryz.ntmps66
    go_wp2_with fail
    go_region
    go_wp2_with fail
    refine wp_region_chainG [0, 1, 2, 3, 4, 5, 6, 7, 8, 9, 10, 11, 12, 13, 14] (fun c => c == 13) (T := fun wx => wx.cell? ⟨p, 3, none⟩ = some (.slice (some ⟨ga, 0, none⟩) C.tos.length cap) ∧ wx.cell? ⟨p, 6, none⟩ = some (.int .i64 C.at_) ∧ wx.cell? ⟨ga, C.at_ * 4, none⟩ = some (.string ⟨rl.toArray⟩) ∧ wx.cell? ⟨ga, C.at_ * 4 + 1, none⟩ = some (.string ⟨rd.toArray⟩)) (S := fun wx => Sp w0 [] wx (clR p C (.slice (some ⟨ga, 0, none⟩) C.tos.length cap) L)) (by kernel_rfl) (by kernel_rfl) HS.out.drew.drew (fun x h => ⟨h.cell 3, h.cell 6, (h.pull1.rcCells HAT.out).1, (h.pull1.rcCells HAT.out).2.1⟩) ?_
    repeat
      refine Exists.intro _ (And.intro rfl (Or.inl (Exists.intro ?_ (And.intro (fun wS hS K hK => ?_) (And.intro ?_ ?_)))))
      rotate_left 1
      · obtain ⟨t0, t1, t2, t3⟩ := hS
        first
          | (refine if_unwanted rfl ?_; simp only [Act.put, List.setIfInBounds_toArray, List.set_cons_zero, List.set_cons_succ]; exact hK.out)
          | (refine if_wanted rfl ?_; go_simp; exact hK.out)
      · rfl
    refine ChainG.one rfl rfl rfl (fun wS hS R hR => ?_)
    go_simp
    go_at_call 85
    refine (HSD.out wS hS).mono ?_
    rintro e w7 ⟨rfl, S7⟩
    refine hR.out _ _ rfl (fun wx => wx.cell? ⟨p, 3, none⟩ = some (.slice (some ⟨ga, 0, none⟩) C.tos.length cap) ∧ wx.cell? ⟨p, 6, none⟩ = some (.int .i64 C.at_) ∧ wx.cell? ⟨ga, C.at_ * 4, none⟩ = some (.string ⟨rl.toArray⟩) ∧ wx.cell? ⟨ga, C.at_ * 4 + 1, none⟩ = some (.string ⟨rd.toArray⟩)) (fun wx => Sp w0 [] wx (clR p q.1 (.slice (some ⟨ga, 0, none⟩) C.tos.length cap) L)) ?_ ?_ (fun _ h => h) ?_
    · unfold clR
      rw [HQ.out.1]
      exact S7
    · intro x h
      unfold clR at h
      rw [HQ.out.1] at h
      exact ⟨h.cell 3, by rw [h.cell 6]; unfold clCells; rw [HQ.out.2]; rfl, (h.pull1.rcCells HAT.out).1, (h.pull1.rcCells HAT.out).2.1⟩
    clear hR hS S7
    repeat
      refine Exists.intro _ (And.intro rfl (Or.inl (Exists.intro ?_ (And.intro (fun wS hS K hK => ?_) (And.intro ?_ ?_)))))
      rotate_left 1
      · obtain ⟨t0, t1, t2, t3⟩ := hS
        first
          | (refine if_unwanted rfl ?_; simp only [Act.put, List.setIfInBounds_toArray, List.set_cons_zero, List.set_cons_succ]; exact hK.out)
          | (refine if_wanted rfl ?_; go_simp; exact hK.out)
      · rfl
    intro wE hE
    have HSE := Lib.hid hE
    clear hE
    go_wp2
    go_ret
    exact ⟨rfl, HSE.out⟩
  · have hlt' : (C.tos.length : Int) ≤ C.at_ := by omega
    have hnone : C.tos[C.at_]? = none := List.getElem?_eq_none (by omega)
    have HV : Hid (C.name = if C.tos.any Rc.taken then C.send ⟨5, [], ([], []), 0, false⟩ 5 else C.leave) := by unfold Hid Cl.name; rw [hnone]
    have HANY := Lib.hid (fun (w' : World) (S' : Sp w0 [] w' (clR p C (.slice a C.tos.length cap) L)) => anyTakenS C.tos h0 hn S'.pull1)
    have HSD := Lib.hid (fun (w' : World) (S' : Sp w0 [] w' (clR p C (.slice a C.tos.length cap) L)) => clSendS (L := rcsR (.slice a C.tos.length cap) C.tos :: L) ⟨5, [], ([], []), 0, false⟩ 5 S' E ⟨by simp, by simp, by simp, by decide, by decide⟩)
    have HLV := Lib.hid (fun (w' : World) (S' : Sp w0 [] w' (clR p C (.slice a C.tos.length cap) L)) => clLeaveS (L := rcsR (.slice a C.tos.length cap) C.tos :: L) S' E)
    unfold cmAgg at HSD
    dsimp only at *
    clear hb S E hnone hlt
    go_enter Tryz.func66, Tryz.ntmps66
    go_wp2_with fail
    go_region
    go_wp2_with fail
    refine (HANY.out _ HS.out.drew).mono ?_
    cases hany : C.tos.any Rc.taken with
    | true =>
      rw [hany, if_pos rfl] at HV
      have HQ : Hid ((C.send ⟨5, [], ([], []), 0, false⟩ 5).1.tos = C.tos) := rfl
      generalize C.send ⟨5, [], ([], []), 0, false⟩ 5 = q at *
      clear hany
      rintro e w3 ⟨rfl, S⟩
      have HS3 := Lib.hid S.pull1
      clear S c0 HANY HLV
      go_wp2_with fail
      refine (HSD.out _ HS3.out).mono ?_
      rintro e w4 ⟨rfl, S⟩
      have HS4 := Lib.hid S
      go_wp2
      go_ret
      rw [HV.out]
      refine ⟨rfl, ?_⟩
      unfold clR
      rw [HQ.out]
      exact HS4.out
    | false =>
      rw [hany, if_neg (by decide)] at HV
      have HQ : Hid (C.leave.1.tos = C.tos) := rfl
      generalize C.leave = q at *
      clear hany
      rintro e w3 ⟨rfl, S⟩
      have HS3 := Lib.hid S.pull1
      clear S c0 HANY HSD
      go_wp2_with fail
      refine (HLV.out _ HS3.out).mono ?_
      rintro e w4 ⟨rfl, S⟩
      have HS4 := Lib.hid S
      go_wp2
      go_ret
      rw [HV.out]
      refine ⟨rfl, ?_⟩
      unfold clR
      rw [HQ.out]
      exact HS4.out
end
end Go.Proofs.YtldlbiodllgflaaGreatDoor
