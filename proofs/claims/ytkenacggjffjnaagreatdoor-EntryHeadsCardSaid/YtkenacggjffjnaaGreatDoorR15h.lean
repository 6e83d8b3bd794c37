/- The document's answer for layer 15: names, heads. Conditions: the lengths fit. The document's answer for layer 15: heads. Conditions: the lengths fit. -/
import Derived.Test.YtkenacggjffjnaaGreatDoorR15
import Derived.Test.YtkenacggjffjnaaGreatDoorReg
import Derived.Test.YtkenacggjffjnaaGreatDoorR15m
/-! R15b -/
set_option linter.unusedSimpArgs false
set_option linter.unusedVariables false
set_option linter.unnecessarySimpa false
namespace Go.Proofs.YtkenacggjffjnaaGreatDoor
open Go.RowKit Go.Maps

theorem joined15 (a b s : Bs) (hs : s = a ++ b) (h : a.length + b.length ≤ maxLen) : ∀ W, (Op.stringOp .add ⟨a.toArray⟩ ⟨b.toArray⟩).run Tryz.prog W = .ok (.string ⟨s.toArray⟩) W := by
  subst hs
  exact fun W => add_str a b h W
section
variable {w0 w : World} {L : List Res} {F0 : List Nat} {b : Nat} {v : Value}
set_option maxRecDepth 100000 in
set_option maxHeartbeats 4000000 in
theorem r15NameS (e : En) (hf : e.Fit) (S : Sp w0 F0 w L) : Calls Tryz.prog 17 #[enAgg e v] w fun r w2 => r = .returned (.string ⟨(enName e).toArray⟩) ∧ Sp w0 F0 w2 L := by
  have HS0 := Lib.hid (S.box (enCells e v) 27)
  obtain ⟨id, dom, ep, cnt, frm, rcs, born, nxt, tries⟩ := e
  have h1 : id < 18446744073709551616 := hf.id
  have h2 : ep < 18446744073709551616 := hf.ep
  have h3 : cnt < 18446744073709551616 := hf.cnt
  have HB := Lib.hid (fun (n : Nat) (hn : n ∈ [id, ep, cnt]) (W : World) (S' : Sp w0 F0 W (boxR w.heap.size (enCells ⟨id, dom, ep, cnt, frm, rcs, born, nxt, tries⟩ v) 27 :: L)) => r15NumS n (by simp only [List.mem_cons, List.not_mem_nil, or_false] at hn; omega) S')
  have hl1 := dec_len9 id h1
  have hl2 := dec_len9 ep h2
  have hl3 := dec_len9 cnt h3
  have HV : Hid (enName ⟨id, dom, ep, cnt, frm, rcs, born, nxt, tries⟩ = [113, 47] ++ Lib.decDigits id ++ [46] ++ Lib.decDigits ep ++ [46] ++ Lib.decDigits cnt) := rfl
  unfold enCells at HS0 HB
  unfold enAgg
  dsimp only at *
  clear S hf h1 h2 h3
  generalize Lib.decDigits = dd at *
  obtain ⟨x1, e1⟩ : ∃ x, x = [113, 47] ++ dd id := ⟨_, rfl⟩
  obtain ⟨x2, e2⟩ : ∃ x, x = x1 ++ [46] := ⟨_, rfl⟩
  obtain ⟨x3, e3⟩ : ∃ x, x = x2 ++ dd ep := ⟨_, rfl⟩
  obtain ⟨x4, e4⟩ : ∃ x, x = x3 ++ [46] := ⟨_, rfl⟩
  obtain ⟨x5, e5⟩ : ∃ x, x = x4 ++ dd cnt := ⟨_, rfl⟩
  have n1 : x1.length ≤ 1002 := by rw [e1, List.length_append]; simp; omega
  have n2 : x2.length ≤ 1003 := by rw [e2, List.length_append]; simp; omega
  have n3 : x3.length ≤ 2003 := by rw [e3, List.length_append]; omega
  have n4 : x4.length ≤ 2004 := by rw [e4, List.length_append]; simp; omega
  have a1 := joined15 [113, 47] (dd id) x1 e1 (by unfold maxLen; simp; omega)
  have a2 := joined15 x1 [46] x2 e2 (by unfold maxLen; simp; omega)
  have a3 := joined15 x2 (dd ep) x3 e3 (by unfold maxLen; omega)
  have a4 := joined15 x3 [46] x4 e4 (by unfold maxLen; simp; omega)
  have a5 := joined15 x4 (dd cnt) x5 e5 (by unfold maxLen; omega)
  have HE : Hid (enName ⟨id, dom, ep, cnt, frm, rcs, born, nxt, tries⟩ = x5) := by unfold Hid; rw [HV.out, e5, e4, e3, e2, e1]
  clear e1 e2 e3 e4 e5 n1 n2 n3 n4 hl1 hl2 hl3 HV
  go_enter Tryz.func17, Tryz.ntmps17
  go_upto_region 1 with (fail)
  generalize w.alloc _ = w1 at *
  generalize w.heap.size = q at *
  refine wp_region_text (S := fun wx => Sp w0 F0 wx (boxR q #[.int .u64 id, .string ⟨dom.toArray⟩, .int .u64 ep, .int .u64 cnt, .string ⟨frm.1.toArray⟩, .string ⟨frm.2.toArray⟩, v, .int .u64 born, .int .u64 nxt, .int .i64 tries] 27 :: L) ∧ (∀ o, wx.cell? ⟨q, o, none⟩ = (#[.int .u64 id, .string ⟨dom.toArray⟩, .int .u64 ep, .int .u64 cnt, .string ⟨frm.1.toArray⟩, .string ⟨frm.2.toArray⟩, v, .int .u64 born, .int .u64 nxt, .int .i64 tries])[o]?)) (by kernel_rfl) (by kernel_rfl) ⟨(HS0.out).drew, (Sp.pick [_] [0] (by decide) ((HS0.out).drew)).cell⟩ ?_
  repeat
    refine Exists.intro ?_ (And.intro (fun wS hS K hK => ?_) (And.intro ?_ ?_))
    rotate_left 1
    · obtain ⟨hS1, hS2⟩ := hS
      first
        | (refine if_unwanted rfl ?_; simp only [Act.put, List.setIfInBounds_toArray, List.set_cons_zero, List.set_cons_succ]; exact hK.out _ ⟨hS1, hS2⟩)
        | (refine if_wanted rfl ?_; go_simp; exact hK.out _ ⟨hS1, hS2⟩)
        | (refine if_wanted rfl ?_; go_simp; go_at_call 48; refine (HB.out _ (by simp) _ hS1).mono ?_; rintro e w12 ⟨rfl, S12⟩; exact hK.out _ ⟨S12, (Sp.pick [_] [0] (by decide) (S12)).cell⟩)
    · rfl
  intro wE hE
  have HSE := Lib.hid hE.1
  clear hE
  go_wp2
  go_ret
  exact ⟨by rw [HE.out]; rfl, HSE.out.drop⟩
end
end Go.Proofs.YtkenacggjffjnaaGreatDoor

/-! R15h -/
namespace Go.Proofs.YtkenacggjffjnaaGreatDoor
open Go.RowKit Go.Maps

section
variable {w0 w : World} {L : List Res} {F0 : List Nat} {b : Nat} {v : Value}
theorem rcsB_small : ∀ l : List Rcp, (∀ x ∈ l, x.1.1.length ≤ 64 ∧ x.1.2.length ≤ 255 ∧ 0 ≤ x.2 ∧ x.2 ≤ 2) → ∀ k, ((l.take k).flatMap rcB).length ≤ 400 * l.length := by
  intro l h k
  have := rcsB_len (l.take k) (fun x hx => h x (List.mem_of_mem_take hx))
  have h2 : (l.take k).length ≤ l.length := by rw [List.length_take]; omega
  omega
set_option maxRecDepth 100000 in
set_option maxHeartbeats 8000000 in
theorem r15Head_any (e : En) (v : Value) (w : World) (hf : e.Fit) (T : TosAt w v e.rcs) : Calls Tryz.prog 12 #[enAgg e v] w fun r w2 => r = .returned (.tuple #[.string ⟨(enHead e).1.toArray⟩, .int .i64 (enHead e).2]) ∧ Ext [] w w2 := by
  have HS0 := Lib.hid ((Sp.nil w []).box (enCells e v) 27)
  have HM := Lib.hid (fun (w' : World) (L' : List Res) (S' : Sp w [] w' L') => r15May_any e v w' hf (T.ext S'.ext))
  have HT := Lib.hid T
  have HPT := Lib.hid (@enMay_parts e)
  have HH : Hid (headB e = numB e.id ++ textB e.dom ++ numB e.ep ++ numB e.cnt ++ textB e.frm.1 ++ textB e.frm.2 ++ numB e.rcs.length ++ e.rcs.flatMap rcB ++ numB e.born ++ numB e.nxt ++ numB e.tries.toNat) := rfl
  have HV : Hid (enHead e = if enMay e then (headB e, 0) else ([], 2)) := rfl
  have HBN := Lib.hid (fun (n : Nat) (hn : n ≤ 1099511627776) (W : World) (L' : List Res) (S' : Sp w [] W L') => r12NumS n S' (by omega))
  have HBT := Lib.hid (fun (s : Bs) (hs : s.length ≤ 1000) (W : World) (L' : List Res) (S' : Sp w [] W L') => r12TxtS s (by omega) S')
  have HLN := Lib.hid num_le9
  have HLT := Lib.hid (fun (s : Bs) (hs : s.length ≤ 1000) => text_le9 (s := s) (by omega))
  have HRB : Hid (∀ x : Rcp, rcB x = textB x.1.1 ++ textB x.1.2 ++ numB x.2.toNat) := fun x => rfl
  have HRL := Lib.hid (rcsB_small e.rcs)
  obtain ⟨id, dom, ep, cnt, ⟨fl, fd⟩, rcs, born, nxt, tries⟩ := e
  obtain ⟨va, vc, rfl⟩ := T.form
  unfold enAgg
  unfold enAgg at HM
  unfold enCells at HS0
  dsimp only at *
  generalize numB = nb at *
  generalize textB = tb at *
  clear T hf
  go_enter Tryz.func12, Tryz.ntmps12
  go_upto_region 1 with (fail)
  generalize w.alloc _ = w1 at *
  generalize w.heap.size = q at *
  have c0 := HS0.out.cell
  go_wp2_with fail
  refine (HM.out _ _ HS0.out).mono ?_
  rintro r w2 ⟨rfl, hx⟩
  have HS2 := Lib.hid (HS0.out.ext0 hx)
  clear hx HS0 c0 HM
  cases hm : enMay ⟨id, dom, ep, cnt, (fl, fd), rcs, born, nxt, tries⟩ with
  | false =>
    have HW : Hid (enHead ⟨id, dom, ep, cnt, (fl, fd), rcs, born, nxt, tries⟩ = ([], 2)) := HV.out.trans (if_neg (by simp [hm]))
    clear HV HBN HBT HLN HLT
    go_wp2
    go_ret2
    rw [HW.out]
    exact ⟨rfl, HS2.out.ext⟩
  | true =>
    have HW : Hid (enHead ⟨id, dom, ep, cnt, (fl, fd), rcs, born, nxt, tries⟩ = (headB ⟨id, dom, ep, cnt, (fl, fd), rcs, born, nxt, tries⟩, 0)) := HV.out.trans (if_pos hm)
    have HP := Lib.hid (HPT.out hm)
    clear HV HPT hm
    have HPD : Hid (dom.length ≤ 1000 ∧ fl.length ≤ 1000 ∧ fd.length ≤ 1000) := by have h1 := HP.out.dom; have h2 := HP.out.frm; dsimp only at h1 h2; unfold Hid; omega
    have HPN : Hid (id ≤ 1099511627776 ∧ ep ≤ 1099511627776 ∧ cnt ≤ 1099511627776 ∧ born ≤ 1099511627776 ∧ nxt ≤ 1099511627776 ∧ 0 ≤ tries ∧ tries ≤ 100) := ⟨HP.out.id.2, HP.out.ep.2, HP.out.cnt, HP.out.born, HP.out.nxt, HP.out.tries.1, HP.out.tries.2⟩
    have HPL : Hid (rcs.length ≤ 10) := HP.out.rcs.2
    have HPE : Hid (∀ x ∈ rcs, x.1.1.length ≤ 64 ∧ x.1.2.length ≤ 255 ∧ 0 ≤ x.2 ∧ x.2 ≤ 2) := HP.out.each
    clear HP
    have hlen : IntKind.u64.wrap (rcs.length : Int) = rcs.length := by have := HPL.out; rw [IntKind.wrap_u64]; omega
    obtain ⟨x1, e1⟩ : ∃ x, x = nb id ++ tb dom := ⟨_, rfl⟩
    obtain ⟨x2, e2⟩ : ∃ x, x = x1 ++ nb ep := ⟨_, rfl⟩
    obtain ⟨x3, e3⟩ : ∃ x, x = x2 ++ nb cnt := ⟨_, rfl⟩
    obtain ⟨x4, e4⟩ : ∃ x, x = x3 ++ tb fl := ⟨_, rfl⟩
    obtain ⟨x5, e5⟩ : ∃ x, x = x4 ++ tb fd := ⟨_, rfl⟩
    obtain ⟨x6, e6⟩ : ∃ x, x = x5 ++ nb rcs.length := ⟨_, rfl⟩
    have l1 := HLN.out id
    have l2 := HLT.out dom HPD.out.1
    have l3 := HLN.out ep
    have l4 := HLN.out cnt
    have l5 := HLT.out fl HPD.out.2.1
    have l6 := HLT.out fd HPD.out.2.2
    have l7 := HLN.out rcs.length
    have n1 : x1.length ≤ 1002000 := by rw [e1, List.length_append]; omega
    have n2 : x2.length ≤ 1003000 := by rw [e2, List.length_append]; omega
    have n3 : x3.length ≤ 1004000 := by rw [e3, List.length_append]; omega
    have n4 : x4.length ≤ 2005000 := by rw [e4, List.length_append]; omega
    have n5 : x5.length ≤ 3006000 := by rw [e5, List.length_append]; omega
    have n6 : x6.length ≤ 3007000 := by rw [e6, List.length_append]; omega
    have a1 := joined15 (nb id) (tb dom) x1 e1 (by unfold maxLen; omega)
    have a2 := joined15 x1 (nb ep) x2 e2 (by unfold maxLen; omega)
    have a3 := joined15 x2 (nb cnt) x3 e3 (by unfold maxLen; omega)
    have a4 := joined15 x3 (tb fl) x4 e4 (by unfold maxLen; omega)
    have a5 := joined15 x4 (tb fd) x5 e5 (by unfold maxLen; omega)
    have a6 := joined15 x5 (nb rcs.length) x6 e6 (by unfold maxLen; omega)
    have HX6 : Hid (x6 = nb id ++ tb dom ++ nb ep ++ nb cnt ++ tb fl ++ tb fd ++ nb rcs.length) := by unfold Hid; rw [e6, e5, e4, e3, e2, e1]
    have HN6 := Lib.hid n6
    have HB1 : Hid (∀ n, n ∈ [id, ep, cnt, rcs.length] → n ≤ 1099511627776) := by
      intro n hn
      have h1 := HPN.out
      have h2 := HPL.out
      simp only [List.mem_cons, List.not_mem_nil, or_false] at hn
      omega
    have HB2 : Hid (∀ s : Bs, s ∈ [dom, fl, fd] → s.length ≤ 1000) := by
      intro s hs
      have h1 := HPD.out
      simp only [List.mem_cons, List.not_mem_nil, or_false] at hs
      rcases hs with rfl | rfl | rfl
      · exact h1.1
      · exact h1.2.1
      · exact h1.2.2
    clear e1 e2 e3 e4 e5 e6 l1 l2 l3 l4 l5 l6 l7 n1 n2 n3 n4 n5 n6
    go_upto_region 3 with (fail)
    refine wp_region_text (S := fun wx => Sp w [] wx (boxR q #[.int .u64 id, .string ⟨dom.toArray⟩, .int .u64 ep, .int .u64 cnt, .string ⟨fl.toArray⟩, .string ⟨fd.toArray⟩, .slice va rcs.length vc, .int .u64 born, .int .u64 nxt, .int .i64 tries] 27 :: []) ∧ (∀ o, wx.cell? ⟨q, o, none⟩ = (#[.int .u64 id, .string ⟨dom.toArray⟩, .int .u64 ep, .int .u64 cnt, .string ⟨fl.toArray⟩, .string ⟨fd.toArray⟩, .slice va rcs.length vc, .int .u64 born, .int .u64 nxt, .int .i64 tries])[o]?)) (by kernel_rfl) (by kernel_rfl) ⟨(HS2.out).drew, (Sp.pick [_] [0] (by decide) ((HS2.out).drew)).cell⟩ ?_
    repeat
      refine Exists.intro ?_ (And.intro (fun wS hS K hK => ?_) (And.intro ?_ ?_))
      rotate_left 1
      · obtain ⟨hS1, hS2⟩ := hS
        first
          | (refine if_unwanted rfl ?_; simp only [Act.put, List.setIfInBounds_toArray, List.set_cons_zero, List.set_cons_succ]; exact hK.out _ ⟨hS1, hS2⟩)
          | (refine if_wanted rfl ?_; go_simp; exact hK.out _ ⟨hS1, hS2⟩)
          | (refine if_wanted rfl ?_; go_simp; go_at_call 37; refine (HBN.out _ (HB1.out _ (by simp)) _ _ hS1).mono ?_; rintro e w12 ⟨rfl, S12⟩; exact hK.out _ ⟨S12, (Sp.pick [_] [0] (by decide) (S12)).cell⟩)
          | (refine if_wanted rfl ?_; go_simp; go_at_call 25; refine (HBT.out _ (HB2.out _ (by simp)) _ _ hS1).mono ?_; rintro e w12 ⟨rfl, S12⟩; exact hK.out _ ⟨S12, (Sp.pick [_] [0] (by decide) (S12)).cell⟩)
      · rfl
    intro wE hE
    have HSE := Lib.hid hE.1
    clear hE
    clear a1 a2 a3 a4 a5 a6 HB1 HB2 hlen
    have cE := HSE.out.cell
    go_wp2_with fail
    go_loopw [4, 5] (fun z at0 wr => ∃ (k : Nat) (x : Bs), z = .string ⟨x.toArray⟩ ∧ at0 = .int .i64 k ∧ k ≤ rcs.length ∧ x = x6 ++ (rcs.take k).flatMap rcB ∧ Sp w [] wr (boxR q #[.int .u64 id, .string ⟨dom.toArray⟩, .int .u64 ep, .int .u64 cnt, .string ⟨fl.toArray⟩, .string ⟨fd.toArray⟩, .slice va rcs.length vc, .int .u64 born, .int .u64 nxt, .int .i64 tries] 27 :: [])) (fun _ at0 _ => rcs.length - (intOf at0).toNat)
    case atStart => exact ⟨0, x6, rfl, rfl, Nat.zero_le _, by simp, HSE.out⟩
    case round =>
      obtain ⟨k, x, rfl, rfl, hk, hx, S1⟩ := hrel
      have HS3 := Lib.hid S1
      have c3 := S1.cell
      have HX := Lib.hid hx
      have HXL : Hid (x.length ≤ 4000000) := by
        have h1 := HRL.out HPE.out k
        have h2 := HPL.out
        have h3 := HN6.out
        unfold Hid
        rw [hx, List.length_append]
        omega
      clear S1 hx HSE cE
      have hk' : (k : Int) ≤ rcs.length := by omega
      by_cases hlt : k < rcs.length
      · have hlt' : (k : Int) < rcs.length := by omega
        obtain ⟨xb, xo, hva, _⟩ := HT.out.at hlt
        subst hva
        have HC : Hid (∀ W, Ext [] w W → W.cell? ⟨xb, xo + k * 3, none⟩ = some (.string ⟨rcs[k].1.1.toArray⟩) ∧ W.cell? ⟨xb, xo + k * 3 + 1, none⟩ = some (.string ⟨rcs[k].1.2.toArray⟩) ∧ W.cell? ⟨xb, xo + k * 3 + 2, none⟩ = some (.int .i64 rcs[k].2)) := fun W hx => by
          obtain ⟨b2, o2, h1, h2⟩ := (HT.out.ext hx).at hlt
          cases h1
          exact h2
        have HE := Lib.hid (HPE.out _ (List.getElem_mem hlt))
        have HTK : Hid (rcs.take (k + 1) = rcs.take k ++ [rcs[k]]) := List.take_succ_eq_append_getElem hlt
        generalize rcs[k] = y at *
        obtain ⟨⟨yl, yd⟩, st⟩ := y
        dsimp only at *
        obtain ⟨sn, rfl⟩ : ∃ sn : Nat, st = sn := ⟨st.toNat, by have := HE.out; omega⟩
        have hsn : IntKind.u64.wrap (sn : Int) = sn := by have := HE.out; rw [IntKind.wrap_u64]; omega
        obtain ⟨z1, f1⟩ : ∃ z, z = tb yl ++ tb yd := ⟨_, rfl⟩
        obtain ⟨z2, f2⟩ : ∃ z, z = z1 ++ nb sn := ⟨_, rfl⟩
        obtain ⟨z3, f3⟩ : ∃ z, z = x ++ z2 := ⟨_, rfl⟩
        have l1 := HLT.out yl (by have := HE.out; omega)
        have l2 := HLT.out yd (by have := HE.out; omega)
        have l3 := HLN.out sn
        have n1 : z1.length ≤ 2002000 := by rw [f1, List.length_append]; omega
        have n2 : z2.length ≤ 2003000 := by rw [f2, List.length_append]; omega
        have a1 := joined15 (tb yl) (tb yd) z1 f1 (by unfold maxLen; omega)
        have a2 := joined15 z1 (nb sn) z2 f2 (by unfold maxLen; omega)
        have a3 := joined15 x z2 z3 f3 (by have := HXL.out; unfold maxLen; omega)
        have HZ3 : Hid (z3 = x6 ++ (rcs.take (k + 1)).flatMap rcB) := by
          unfold Hid
          rw [HTK.out, f3, f2, f1, HX.out, List.flatMap_append]
          simp [HRB.out]
        have HB1 : Hid (∀ n, n ∈ [sn] → n ≤ 1099511627776) := by
          intro n hn
          have h1 := HE.out
          simp only [List.mem_cons, List.not_mem_nil, or_false] at hn
          omega
        have HB2 : Hid (∀ s : Bs, s ∈ [yl, yd] → s.length ≤ 1000) := by
          intro s hs
          have h1 := HE.out
          simp only [List.mem_cons, List.not_mem_nil, or_false] at hs
          rcases hs with rfl | rfl
          · omega
          · omega
        clear f1 f2 f3 l1 l2 l3 n1 n2
        go_upto_region 7 with (fail)
        refine wp_region_text (S := fun wx => Sp w [] wx (boxR q #[.int .u64 id, .string ⟨dom.toArray⟩, .int .u64 ep, .int .u64 cnt, .string ⟨fl.toArray⟩, .string ⟨fd.toArray⟩, .slice (some ⟨xb, xo, none⟩) rcs.length vc, .int .u64 born, .int .u64 nxt, .int .i64 tries] 27 :: []) ∧ (∀ o, wx.cell? ⟨q, o, none⟩ = (#[.int .u64 id, .string ⟨dom.toArray⟩, .int .u64 ep, .int .u64 cnt, .string ⟨fl.toArray⟩, .string ⟨fd.toArray⟩, .slice (some ⟨xb, xo, none⟩) rcs.length vc, .int .u64 born, .int .u64 nxt, .int .i64 tries])[o]?) ∧ (wx.cell? ⟨xb, xo + k * 3, none⟩ = some (.string ⟨yl.toArray⟩)) ∧ (wx.cell? ⟨xb, xo + k * 3 + 1, none⟩ = some (.string ⟨yd.toArray⟩)) ∧ (wx.cell? ⟨xb, xo + k * 3 + 2, none⟩ = some (.int .i64 sn))) (by kernel_rfl) (by kernel_rfl) ⟨(HS3.out).drew, (Sp.pick [_] [0] (by decide) ((HS3.out).drew)).cell, (HC.out _ HS3.out.drew.ext).1, (HC.out _ HS3.out.drew.ext).2.1, (HC.out _ HS3.out.drew.ext).2.2⟩ ?_
        repeat
          refine Exists.intro ?_ (And.intro (fun wS hS K hK => ?_) (And.intro ?_ ?_))
          rotate_left 1
          · obtain ⟨hS1, hS2, hS3, hS4, hS5⟩ := hS
            first
              | (refine if_unwanted rfl ?_; simp only [Act.put, List.setIfInBounds_toArray, List.set_cons_zero, List.set_cons_succ]; exact hK.out _ ⟨hS1, hS2, hS3, hS4, hS5⟩)
              | (refine if_wanted rfl ?_; go_simp; exact hK.out _ ⟨hS1, hS2, hS3, hS4, hS5⟩)
              | (refine if_wanted rfl ?_; go_simp; go_at_call 37; refine (HBN.out _ (HB1.out _ (by simp)) _ _ hS1).mono ?_; rintro e w12 ⟨rfl, S12⟩; exact hK.out _ ⟨S12, (Sp.pick [_] [0] (by decide) (S12)).cell, (HC.out _ S12.ext).1, (HC.out _ S12.ext).2.1, (HC.out _ S12.ext).2.2⟩)
              | (refine if_wanted rfl ?_; go_simp; go_at_call 25; refine (HBT.out _ (HB2.out _ (by simp)) _ _ hS1).mono ?_; rintro e w12 ⟨rfl, S12⟩; exact hK.out _ ⟨S12, (Sp.pick [_] [0] (by decide) (S12)).cell, (HC.out _ S12.ext).1, (HC.out _ S12.ext).2.1, (HC.out _ S12.ext).2.2⟩)
          · rfl
        intro wE hE
        have HSE := Lib.hid hE.1
        clear hE
        clear a1 a2 a3 HB1 HB2
        have hl10 : (rcs.length : Int) ≤ 10 := by have := HPL.out; omega
        go_wp2_with fail
        go_roundw
        case rel => exact ⟨k + 1, z3, rfl, by go_num, by omega, HZ3.out, HSE.out⟩
        case measure => simp [intOf]; omega
      · obtain rfl : k = rcs.length := by omega
        obtain ⟨tn, rfl⟩ : ∃ tn : Nat, tries = tn := ⟨tries.toNat, by have := HPN.out; omega⟩
        have htn : IntKind.u64.wrap (tn : Int) = tn := by have := HPN.out; rw [IntKind.wrap_u64]; omega
        obtain ⟨z1, f1⟩ : ∃ z, z = x ++ nb born := ⟨_, rfl⟩
        obtain ⟨z2, f2⟩ : ∃ z, z = z1 ++ nb nxt := ⟨_, rfl⟩
        obtain ⟨z3, f3⟩ : ∃ z, z = z2 ++ nb tn := ⟨_, rfl⟩
        have l1 := HLN.out born
        have l2 := HLN.out nxt
        have l3 := HLN.out tn
        have n1 : z1.length ≤ 4001000 := by have := HXL.out; rw [f1, List.length_append]; omega
        have n2 : z2.length ≤ 4002000 := by rw [f2, List.length_append]; omega
        have a1 := joined15 x (nb born) z1 f1 (by have := HXL.out; unfold maxLen; omega)
        have a2 := joined15 z1 (nb nxt) z2 f2 (by unfold maxLen; omega)
        have a3 := joined15 z2 (nb tn) z3 f3 (by unfold maxLen; omega)
        have HZ3 : Hid (headB ⟨id, dom, ep, cnt, (fl, fd), rcs, born, nxt, (tn : Int)⟩ = z3) := by
          unfold Hid
          rw [HH.out, f3, f2, f1, HX.out, List.take_length, HX6.out, Int.toNat_natCast]
        have HB1 : Hid (∀ n, n ∈ [born, nxt, tn] → n ≤ 1099511627776) := by
          intro n hn
          have h1 := HPN.out
          simp only [List.mem_cons, List.not_mem_nil, or_false] at hn
          omega
        clear f1 f2 f3 l1 l2 l3 n1 n2 hlt hk'
        go_upto_region 8 with (fail)
        refine wp_region_text (S := fun wx => Sp w [] wx (boxR q #[.int .u64 id, .string ⟨dom.toArray⟩, .int .u64 ep, .int .u64 cnt, .string ⟨fl.toArray⟩, .string ⟨fd.toArray⟩, .slice va rcs.length vc, .int .u64 born, .int .u64 nxt, .int .i64 tn] 27 :: []) ∧ (∀ o, wx.cell? ⟨q, o, none⟩ = (#[.int .u64 id, .string ⟨dom.toArray⟩, .int .u64 ep, .int .u64 cnt, .string ⟨fl.toArray⟩, .string ⟨fd.toArray⟩, .slice va rcs.length vc, .int .u64 born, .int .u64 nxt, .int .i64 tn])[o]?)) (by kernel_rfl) (by kernel_rfl) ⟨(HS3.out).drew, (Sp.pick [_] [0] (by decide) ((HS3.out).drew)).cell⟩ ?_
        repeat
          refine Exists.intro ?_ (And.intro (fun wS hS K hK => ?_) (And.intro ?_ ?_))
          rotate_left 1
          · obtain ⟨hS1, hS2⟩ := hS
            first
              | (refine if_unwanted rfl ?_; simp only [Act.put, List.setIfInBounds_toArray, List.set_cons_zero, List.set_cons_succ]; exact hK.out _ ⟨hS1, hS2⟩)
              | (refine if_wanted rfl ?_; go_simp; exact hK.out _ ⟨hS1, hS2⟩)
              | (refine if_wanted rfl ?_; go_simp; go_at_call 37; refine (HBN.out _ (HB1.out _ (by simp)) _ _ hS1).mono ?_; rintro e w12 ⟨rfl, S12⟩; exact hK.out _ ⟨S12, (Sp.pick [_] [0] (by decide) (S12)).cell⟩)
          · rfl
        intro wE hE
        have HSE := Lib.hid hE.1
        clear hE
        go_wp2
        go_ret2
        rw [HW.out, HZ3.out]
        exact ⟨rfl, HSE.out.ext⟩
end
end Go.Proofs.YtkenacggjffjnaaGreatDoor
